/-
  Contract of muster/fleet: Do.
-/
import Derived.Test.YtdamocjbkdknaaaFleetCheck
import Derived.Test.YtdamocjbkdknaaaFleetMay
import Derived.Test.YtdamocjbkdknaaaFleetDone
namespace Go.Proofs.Ytdamocjbkdknaaa.FleetW
open Go.RowKit Mem Fleet
set_option linter.unusedVariables false
set_option linter.unusedSimpArgs false
set_option linter.unnecessarySimpa false

def NPost (r : List Nd × Int) (w : World) (e : Ending) (w' : World) : Prop := ∃ A c, e = .returned (.tuple #[.slice A r.1.length c, .int .i64 r.2]) ∧ NdsO w' w.heap.size A r.1.length c r.1 ∧ Below w.heap.size w w'
theorem own_seven {w : World} {base g n c : Nat} {l : List Nd} (h : NdsO w base (some ⟨g, 0, none⟩) n c l) {i : Nat} (hi : i < n) : ∃ s, l[i]? = some s ∧ (w.cell? ⟨g, i * 7, none⟩ = some (.int .i64 s.st) ∧ w.cell? ⟨g, i * 7 + 1, none⟩ = some (.int .i64 s.jb) ∧ w.cell? ⟨g, i * 7 + 2, none⟩ = some (.int .i64 s.ep) ∧ w.cell? ⟨g, i * 7 + 3, none⟩ = some (.bool s.dr) ∧ w.cell? ⟨g, i * 7 + 4, none⟩ = some (.int .i64 s.wt) ∧ w.cell? ⟨g, i * 7 + 5, none⟩ = some (.int .i64 s.si) ∧ w.cell? ⟨g, i * 7 + 6, none⟩ = some (.int .i64 s.ak)) ∧
    ∀ j, j < 7 → w.frozen? ⟨g, i * 7 + j, none⟩ = false := by
  obtain ⟨g', off', s, e', hg', hs, d0, d1, d2, d3, d4, d5, d6⟩ := Lst.seven (h.lst layN) hi
  injection e' with e'
  injection e' with e1 e2
  subst e1 e2
  rw [Nat.zero_add] at d0 d1 d2 d3 d4 d5 d6
  have hle := h.2.le
  obtain ⟨g', e', _, _, _, h2⟩ := h.2.room (by omega)
  injection e' with e'
  injection e' with e1 e2
  subst e1
  exact ⟨s, hs, ⟨d0, d1, d2, d3, d4, d5, d6⟩, fun j hj => (h2 _ (by omega)).2⟩
theorem doT_chk {l : List Nd} {n act job now : Int} (h : chk l = false) : doT l n act job now = ([], 120) := by rw [doT, if_pos h]
theorem doT_out {l : List Nd} {n act job now : Int} (h : n < 0 ∨ (l.length : Int) ≤ n) : doT l n act job now = ([], 120) := by
  unfold doT
  split
  · rfl
  · rcases h with h | h
    · rw [if_neg (by omega)]
    · by_cases h0 : 0 ≤ n
      · rw [if_pos h0, List.getElem?_eq_none (by omega)]
      · rw [if_neg h0]
theorem doT_at {l : List Nd} {k : Nat} {x : Nd} {act job now : Int} (hc : chk l = true) (h : l[k]? = some x) : doT l (k : Int) act job now = if tickB now = false then ([], 120) else if mayB x act job = false then ([], 120) else (l.set k (doneN x act job now), 0) := by
  unfold doT
  rw [if_neg (by simp [hc]), if_pos (by omega), Int.toNat_natCast, h]
set_option maxHeartbeats 2000000 in
set_option maxRecDepth 100000 in
theorem do_any (A : Option Addr) (n c : Nat) (l : List Nd) (m act job now : Int) (w : World) (h : Nds w A n l) (hn : n ≤ maxLen) (hA : A = none → c = 0) :
    Calls Try.prog 27 #[.slice A n c, .int .i64 m, .int .i64 act, .int .i64 job, .int .i64 now] w (NPost (doT l m act job now) w) := by
  have hlen := h.len
  subst hlen
  have HCk := Lib.hid (check_any A l.length c l w h hn)
  cases hck : chk l
  · rw [chkE_no hck] at HCk
    have HP := Lib.hid (doT_chk (n := m) (act := act) (job := job) (now := now) hck)
    clear hck h hA
    go_enter Try.func27, Try.ntmps27
    go_wp2_with fail
    refine HCk.out.mono ?_
    rintro e w1 ⟨rfl, b1⟩
    go_wp2_with fail
    go_ret2
    rw [HP.out]
    exact ⟨none, 0, rfl, SOwn.nil _ _ _ _, b1⟩
  rw [chkE_yes hck] at HCk
  have hfew := (chk_iff.1 hck).few
  by_cases h1 : m < 0
  · have HP := Lib.hid (doT_out (l := l) (act := act) (job := job) (now := now) (.inl h1))
    clear hck h hA
    go_enter Try.func27, Try.ntmps27
    go_wp2_with fail
    refine HCk.out.mono ?_
    rintro e w1 ⟨rfl, b1⟩
    go_wp2_with fail
    go_ret2
    rw [HP.out]
    exact ⟨none, 0, rfl, SOwn.nil _ _ _ _, b1⟩
  have h1' : 0 ≤ m := by omega
  by_cases h2 : (l.length : Int) ≤ m
  · have HP := Lib.hid (doT_out (l := l) (act := act) (job := job) (now := now) (.inr h2))
    clear hck h hA h1
    go_enter Try.func27, Try.ntmps27
    go_wp2_with fail
    refine HCk.out.mono ?_
    rintro e w1 ⟨rfl, b1⟩
    go_wp2_with fail
    go_ret2
    rw [HP.out]
    exact ⟨none, 0, rfl, SOwn.nil _ _ _ _, b1⟩
  obtain ⟨k, rfl⟩ : ∃ k : Nat, m = (k : Int) := ⟨m.toNat, by omega⟩
  have hk : k < l.length := by omega
  have hk2 : decide (l.length ≤ k) = false := by simp; omega
  have hk3 : ¬ l.length ≤ k := by omega
  clear h1 h1' h2
  obtain ⟨b, off, x, rfl, hb, hx, _⟩ := Lst.seven h hk
  have HP := Lib.hid (doT_at (act := act) (job := job) (now := now) hck hx)
  obtain ⟨he1, he2, _⟩ := fineN_iff.1 ((chk_iff.1 hck).fine x (mem_of_at hx))
  have HT := Lib.hid (tick_any now)
  have HX := Lib.hid hx
  have HH := Lib.hid h
  clear hck hx h hA
  cases ht : tickB now
  · rw [ht] at HT
    rw [ht, if_pos rfl] at HP
    clear ht
    go_enter Try.func27, Try.ntmps27
    go_wp2_with fail
    refine HCk.out.mono ?_
    rintro e w1 ⟨rfl, b1⟩
    go_wp2_with fail
    refine (HT.out _).mono ?_
    rintro e w2 ⟨rfl, rfl⟩
    go_wp2_with fail
    go_ret2
    rw [HP.out]
    exact ⟨none, 0, rfl, SOwn.nil _ _ _ _, b1⟩
  rw [ht] at HT
  rw [ht, if_neg (by simp)] at HP
  clear ht
  have HM := Lib.hid (may_any x act job)
  cases hm : mayB x act job
  · rw [hm, if_pos rfl] at HP
    unfold MayC at HM
    rw [hm] at HM
    clear hm
    go_enter Try.func27, Try.ntmps27
    go_wp2_with fail
    refine HCk.out.mono ?_
    rintro e w1 ⟨rfl, b1⟩
    obtain ⟨b', off', x', e', hb', hx', d0, d1, d2, d3, d4, d5, d6⟩ := Lst.seven (HH.out.below b1) hk
    injection e' with e'
    injection e' with e1 e2
    subst e1 e2
    rw [HX.out] at hx'
    injection hx' with hx'
    subst hx'
    go_wp2_with fail
    refine (HT.out _).mono ?_
    rintro e w2 ⟨rfl, rfl⟩
    go_wp2_with fail
    refine (HM.out _).mono ?_
    rintro e w2 ⟨rfl, b2⟩
    clear d0 d1 d2 d3 d4 d5 d6
    go_wp2_with fail
    go_ret2
    rw [HP.out]
    exact ⟨none, 0, rfl, SOwn.nil _ _ _ _, below_step b1 b2⟩
  · rw [hm, if_neg (by simp)] at HP
    unfold MayC at HM
    rw [hm] at HM
    clear hm
    have HD := Lib.hid (done_any x act job now)
    unfold DoneC at HD
    obtain ⟨y, hy⟩ : ∃ y, y = doneN x act job now := ⟨_, rfl⟩
    rw [← hy] at HD HP
    clear hy
    go_enter Try.func27, Try.ntmps27
    go_wp2_with fail
    refine HCk.out.mono ?_
    rintro e w1 ⟨rfl, b1⟩
    obtain ⟨b', off', x', e', hb', hx', d0, d1, d2, d3, d4, d5, d6⟩ := Lst.seven (HH.out.below b1) hk
    injection e' with e'
    injection e' with e1 e2
    subst e1 e2
    rw [HX.out] at hx'
    injection hx' with hx'
    subst hx'
    go_wp2_with fail
    refine (HT.out _).mono ?_
    rintro e w2 ⟨rfl, rfl⟩
    go_wp2_with fail
    refine (HM.out _).mono ?_
    rintro e w2 ⟨rfl, b2⟩
    have b02 := below_step b1 b2
    clear d0 d1 d2 d3 d4 d5 d6
    have HCl := Lib.hid (nclone_any (some ⟨b, off, none⟩) l.length c l w2 (HH.out.below b02) (by omega) (fun h => by cases h))
    go_wp2_with fail
    refine HCl.out.mono ?_
    rintro e w3 ⟨A3, c3, rfl, o3, b3⟩
    have b03 := below_step b02 b3
    obtain ⟨b', off', x', e', hb', hx', d0, d1, d2, d3, d4, d5, d6⟩ := Lst.seven (HH.out.below b03) hk
    injection e' with e'
    injection e' with e1 e2
    subst e1 e2
    rw [HX.out] at hx'
    injection hx' with hx'
    subst hx'
    have hc3 := o3.2.le
    obtain ⟨g, rfl, hg1, hg2, _, _⟩ := o3.2.room (by omega)
    have HO3 := Lib.hid o3
    clear o3
    go_wp2_with fail
    refine (HD.out w3 he2 he1).mono ?_
    rintro e w4 ⟨rfl, b4⟩
    have hO := HO3.out.below b4
    obtain ⟨s, _, ⟨q0, q1, q2, q3, q4, q5, q6⟩, hfr⟩ := own_seven hO hk
    have f0 := hfr 0 (by omega)
    have f1 := hfr 1 (by omega)
    have f2 := hfr 2 (by omega)
    have f3 := hfr 3 (by omega)
    have f4 := hfr 4 (by omega)
    have f5 := hfr 5 (by omega)
    have f6 := hfr 6 (by omega)
    rw [Nat.add_zero] at f0
    have HN := Lib.hid (sown_set layN hO k hk y)
    have b04 := below_step b03 b4
    have HL : Hid ((l.set k y).length = l.length) := by show _ = _; simp
    have hki : (k : Int) < (l.length : Int) := by omega
    clear hO hfr d0 d1 d2 d3 d4 d5 d6
    go_wp2_with fail
    go_ret2
    rw [HP.out]
    unfold NPost
    rw [HL.out]
    exact ⟨_, c3, rfl, HN.out.mono b02.size, below_setCells b04 (Nat.le_trans b02.size hg1) (ndRow y) (k * 7)⟩
end Go.Proofs.Ytdamocjbkdknaaa.FleetW
