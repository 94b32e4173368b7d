/-
  FleetSets: musterref12.List, and the law's walk.
-/
import Derived.Test.YtdamocjbkdknaaaFleetAwake
import Derived.Test.YtdamocjbkdknaaaFleetOpen
import Derived.Test.YtdamocjbkdknaaaFleetBits2
namespace Go.Proofs.Ytdamocjbkdknaaa.FleetW
open Go.RowKit Mem Fleet
set_option linter.unusedVariables false
set_option linter.unusedSimpArgs false
set_option linter.unnecessarySimpa false

/-- a slice of numbers, made new -/
def NewI (l : List Nat) (w : World) (e : Ending) (w' : World) : Prop := ∃ A c, e = .returned (.slice A l.length c) ∧ IntsO w' w.heap.size A l.length c (nats l) ∧ Below w.heap.size w w'
def RLRel (w : World) (s : Nat) (S X Y : Value) (wr : World) : Prop :=
  ∃ (k s' : Nat) (A : Option Addr) (n c : Nat) (done : List Nat), k ≤ 64 ∧ S = .int .u64 (s' : Int) ∧ X = .slice A n c ∧ Y = .int .i64 k ∧ n ≤ k ∧ s' < 2 ^ (64 - k) ∧ IntsO wr w.heap.size A n c (nats done) ∧ done ++ bitsL (64 - k) k s' = memL s ∧ Below w.heap.size w wr
theorem bits_step {s k : Nat} (hk : k < 64) : bitsL (64 - k) k s = (if s % 2 = 1 then [k] else []) ++ bitsL (64 - (k + 1)) (k + 1) (s / 2) := by
  have : 64 - k = (64 - (k + 1)) + 1 := by omega
  rw [this, bitsL]
set_option maxHeartbeats 2000000 in
set_option maxRecDepth 100000 in
theorem rlist_any (s : Nat) (w : World) (hs : s < 2 ^ 64) : Calls Try.prog 30 #[.int .u64 (s : Int)] w (NewI (memL s) w) := by
  have H0 : Hid ([] ++ bitsL (64 - 0) 0 s = memL s) := bitsL_mem s
  go_enter Try.func30, Try.ntmps30
  go_wp2_with fail
  go_loopw [0, 3, 4] (fun S X Y wr => RLRel w s S X Y wr) (fun S _ _ _ => (intOf S).toNat)
  case atStart => exact ⟨0, s, none, 0, 0, [], by omega, rfl, rfl, rfl, by omega, hs, SOwn.nil _ _ _ _, H0.out, Below.refl _ _⟩
  case round =>
    obtain ⟨k, s', A1, n1, c1, done, hk, rfl, rfl, rfl, hnk, hlt, ho, hd, hbel⟩ := hrel
    have HO := Lib.hid ho
    have HD := Lib.hid hd
    have HLt := Lib.hid hlt
    clear ho hd hlt
    by_cases h0 : s' = 0
    · subst h0
      have HF : Hid (done = memL s) := by
        show _ = _
        have := HD.out
        rw [bitsL_zero, List.append_nil] at this
        exact this
      have hln : (memL s).length = n1 := by
        have := HO.out.1
        rw [HF.out] at this
        simpa [nats] using this
      have HL := Lib.hid hln
      clear hln
      go_wp2_with fail
      go_ret
      unfold NewI
      rw [HL.out]
      exact ⟨A1, c1, rfl, by rw [← HF.out]; exact HO.out, hbel⟩
    · have hk64 : k < 64 := by
        rcases Nat.lt_or_ge k 64 with h | h
        · exact h
        · have : k = 64 := by omega
          have hh := HLt.out
          rw [this] at hh
          simp at hh
          omega
      have hpos : 0 < (s' : Int) := by omega
      have hlt' : s' / 2 < 2 ^ (64 - (k + 1)) := by
        have hh := HLt.out
        have e : 64 - k = (64 - (k + 1)) + 1 := by omega
        rw [e, Nat.pow_succ] at hh
        omega
      have hub : (s' : Int) ≤ 18446744073709551615 := by
        have hh := HLt.out
        have : 2 ^ (64 - k) ≤ 2 ^ 64 := Nat.pow_le_pow_right (by omega) (by omega)
        omega
      have HLt' := Lib.hid hlt'
      have HSt := Lib.hid (bits_step (s := s') hk64)
      have hq : (s' : Int) / 2 = ((s' / 2 : Nat) : Int) := by omega
      have hless : s' / 2 < s' := by omega
      clear hlt'
      by_cases h1 : s' % 2 = 1
      · rw [if_pos h1] at HSt
        have e1 : ((s' : Int) % 2 == 1) = true := by rw [beq_iff_eq]; omega
        have e1' : (s' % 2 == 1) = true := by rw [beq_iff_eq]; exact h1
        have HN : Hid ((done ++ [k]) ++ bitsL (64 - (k + 1)) (k + 1) (s' / 2) = memL s) := by
          show _ = _
          rw [← HD.out, HSt.out, List.append_assoc]
        have HQ := Lib.hid hq
        obtain ⟨U, hU⟩ : ∃ U, U = wr.alloc (.cells #[.int .i64 (k : Int)] 3) := ⟨_, rfl⟩
        have bU : Below wr.heap.size wr U := by rw [hU]; exact (Below.refl _ _).alloc (Nat.le_refl _) _
        have sU : Ints U (some ⟨wr.heap.size, 0, none⟩) 1 [(k : Int)] := by rw [hU]; exact Lst.new layI wr (k : Int) #[.int .i64 (k : Int)] 3 rfl
        obtain ⟨A2, c2, w3, hrun, o3, b3, _, _⟩ := app_s layI (P := Try.prog) U w.heap.size 51 51 3 _ 8 Try.underlying51 intInfo rfl A1 n1 c1 _ (HO.out.below bU) (some ⟨wr.heap.size, 0, none⟩) 1 1 [(k : Int)] sU (by simp only [maxLen]; omega) (by omega) (Nat.le_trans hbel.size bU.size)
        have hnn : nats done ++ [(k : Int)] = nats (done ++ [k]) := by rw [nats_append]; rfl
        rw [hnn] at o3
        have HR := Lib.hid hrun
        have HO2 := Lib.hid o3
        rw [hU] at HR
        have b03 := (below_step hbel bU).trans b3
        clear hrun o3 sU hU hnn hq h1 h0
        go_wp2_with (at_builtin; refine wpList_app2 rfl _ _ rfl rfl rfl HR.out ?_)
        refine ⟨⟨k + 1, s' / 2, A2, n1 + 1, c2, done ++ [k], by omega, ?_, rfl, by go_num, by omega, HLt'.out, HO2.out, HN.out, b03⟩, ?_⟩
        · first | rfl | (rw [← HQ.out])
        · simp [intOf]; omega
      · rw [if_neg h1, List.nil_append] at HSt
        have e1 : ((s' : Int) % 2 == 1) = false := by rw [beq_eq_false_iff_ne]; omega
        have e1' : (s' % 2 == 1) = false := by rw [beq_eq_false_iff_ne]; exact h1
        have HN : Hid (done ++ bitsL (64 - (k + 1)) (k + 1) (s' / 2) = memL s) := by
          show _ = _
          rw [← HD.out, HSt.out]
        have HQ := Lib.hid hq
        clear hq h1 h0
        go_wp2_with fail
        refine ⟨⟨k + 1, s' / 2, A1, n1, c1, done, by omega, ?_, rfl, by go_num, by omega, HLt'.out, HO.out, HN.out, hbel⟩, ?_⟩
        · first | rfl | (rw [← HQ.out])
        · simp [intOf]; omega
def allQ (job : Int) (k : Nat) (x : Nd) : Bool := x.jb == job && decide (0 ≤ x.st) && decide (x.st < (k : Int))
theorem st_range {x : Nd} (h : fineN x = true) : 0 ≤ x.st ∧ x.st ≤ 4 := by
  have := body_cases.1 (fineN_iff.1 h).2.2.2.2
  omega
theorem all_and {l : List Nd} {job : Int} {k : Nat} : setB (ofQ job k) l &&& setB (allQ job k) l = 0 := by
  refine setB_and fun x hx => ?_
  unfold ofQ allQ
  by_cases h : x.st = (k : Int)
  · have : decide (x.st < (k : Int)) = false := by simp; omega
    simp [this]
  · have : (x.st == (k : Int)) = false := by simpa using h
    simp [this]
theorem all_or {l : List Nd} {job : Int} {k : Nat} : setB (allQ job k) l ||| setB (ofQ job k) l = setB (allQ job (k + 1)) l := by
  refine setB_or fun x hx => ?_
  unfold ofQ allQ
  cases (x.jb == job)
  · rfl
  · simp only [Bool.true_and]
    by_cases h : x.st = (k : Int)
    · have h1 : (x.st == (k : Int)) = true := by simpa using h
      have h2 : decide (0 ≤ x.st) = true := by simp; omega
      have h3 : decide (x.st < ((k + 1 : Nat) : Int)) = true := by simp; omega
      rw [h1, h2, h3]
      simp
    · have h1 : (x.st == (k : Int)) = false := by simpa using h
      rw [h1, Bool.or_false]
      congr 1
      rw [decide_eq_decide]
      omega
theorem all_end {l : List Nd} {job : Int} (h : ∀ x ∈ l, fineN x = true) : setB (allQ job 5) l = setB (fun x => x.jb == job) l := by
  refine setB_congr l fun x hx => ?_
  have := st_range (h x hx)
  have h1 : decide (0 ≤ x.st) = true := by simp; omega
  have h2 : decide (x.st < ((5 : Nat) : Int)) = true := by simp; omega
  simp only [allQ, h1, h2, Bool.and_true]
theorem of_none {l : List Nd} {job : Int} {k : Nat} (h : ∀ x ∈ l, fineN x = true) (hj : 0 < job) (hk : k = 0 ∨ k = 4) : setB (ofQ job k) l = 0 := by
  refine setB_zero fun x hx => ?_
  have hb := body_cases.1 (fineN_iff.1 (h x hx)).2.2.2.2
  unfold ofQ
  by_cases h1 : x.st = (k : Int)
  · have : (x.jb == job) = false := by simp; omega
    simp [this]
  · have : (x.st == (k : Int)) = false := by simpa using h1
    simp [this]
theorem free_up {l : List Nd} : diffN (setB freeQ l) (setB upQ l) = 0 := by
  refine setB_diff fun x _ hf => ?_
  unfold freeQ at hf
  unfold upQ
  simp at hf ⊢
  exact ⟨by omega, hf.2⟩
theorem filter_step {l : List Nd} {job : Int} {k : Nat} {s : Nd} (h : l[k]? = some s) : ((l.take (k + 1)).filter (fun x => x.jb == job)).length = ((l.take k).filter (fun x => x.jb == job)).length + if s.jb == job then 1 else 0 := by
  rw [take_snoc_some h, List.filter_append, List.length_append]
  cases hq : (s.jb == job) <;> simp [hq]
def SetsRel (W : World) (l : List Nd) (job : Int) (X Y : Value) (wr : World) : Prop := ∃ k : Nat, k ≤ 5 ∧ X = .int .u64 ((setB (allQ job k) l : Nat) : Int) ∧ Y = .int .i64 k ∧ Below W.heap.size W wr
def CntRel (w3 : World) (l : List Nd) (job : Int) (X Y : Value) (wr : World) : Prop := ∃ k : Nat, k ≤ l.length ∧ X = .int .i64 (((l.take k).filter (fun x => x.jb == job)).length : Int) ∧ Y = .int .i64 k ∧ w3 = wr
set_option maxHeartbeats 4000000 in
set_option maxRecDepth 100000 in
theorem sets_any (A : Option Addr) (n c : Nat) (l : List Nd) (job : Int) (W : World) (h : ArgN W A n c l) :
    Calls Try.prog 7 #[.slice A n c, .int .i64 job] W (TrueB W) := by
  have hl := h.st.len
  subst hl
  have HAw := Lib.hid fawake_any
  have HFr : Hid (∀ w', Below W.heap.size W w' → Calls Try.prog 21 #[.slice A l.length c] w' (Ret (.int .u64 (whereN freeQ l : Int)) w')) := fun w' hb' => free_any A l.length c l w' (h.st.below hb') h.max
  by_cases h1 : l.length ≤ 100
  case neg =>
    have HF := Lib.hid (nfew_is false A l.length c W (by simp; omega))
    have HW0 : Hid (whereN freeQ l = 0) := by show _ = _; simp [whereN, chk_long (show 48 < l.length by omega)]
    rw [HW0.out] at HFr
    clear h
    go_enter Try.func7, Try.ntmps7
    go_wp2_with fail
    refine HF.out.mono ?_
    rintro e w1 ⟨rfl, rfl⟩
    go_wp2_with fail
    refine (HFr.out W (Below.refl _ _)).mono ?_
    rintro e w1 ⟨rfl, b1⟩
    go_wp2_with fail
    go_ret
    exact ⟨rfl, b1⟩
  have HF := Lib.hid (nfew_is true A l.length c W (by simp; omega))
  have HCk := Lib.hid (check_any A l.length c l W h.st h.max)
  cases hck : chk l
  · rw [chkE_no hck] at HCk
    have HW0 : Hid (whereN freeQ l = 0) := by show _ = _; simp [whereN, hck]
    rw [HW0.out] at HFr
    clear h hck
    go_enter Try.func7, Try.ntmps7
    go_wp2_with fail
    refine HF.out.mono ?_
    rintro e w1 ⟨rfl, rfl⟩
    go_wp2_with fail
    refine HCk.out.mono ?_
    rintro e w1 ⟨rfl, b1⟩
    go_wp2_with fail
    refine (HFr.out w1 b1).mono ?_
    rintro e w2 ⟨rfl, b2⟩
    go_wp2_with fail
    go_ret
    exact ⟨rfl, below_step b1 b2⟩
  rw [chkE_yes hck] at HCk
  have ok := chk_iff.1 hck
  have hfew := ok.few
  have HFine := Lib.hid ok.fine
  have hwn : ∀ q, whereN q l = setB q l := fun q => by simp [whereN, hck]
  have HWN := Lib.hid hwn
  rw [hwn] at HFr
  have HH := Lib.hid h
  have HUp : Hid (∀ w', Below W.heap.size W w' → Calls Try.prog 23 #[.slice A l.length c] w' (Ret (.int .u64 (setB upQ l : Int)) w')) := by
    show ∀ w', _
    intro w' hb'
    rw [← HWN.out]
    exact up_any A l.length c l w' (HH.out.st.below hb') HH.out.max
  clear h hck ok hwn
  go_enter Try.func7, Try.ntmps7
  go_wp2_with fail
  refine HF.out.mono ?_
  rintro e w1 ⟨rfl, rfl⟩
  go_wp2_with fail
  refine HCk.out.mono ?_
  rintro e w1 ⟨rfl, b1⟩
  go_wp2_with fail
  go_loopw [5, 6] (fun X Y wr => SetsRel W l job X Y wr) (fun _ Y _ => 5 - (intOf Y).toNat)
  case atStart => exact ⟨0, by omega, by rw [setB_zero (fun x hx => by unfold allQ; by_cases h0 : 0 ≤ x.st <;> simp [h0] <;> omega)]; rfl, rfl, b1⟩
  case round =>
    obtain ⟨k, hk, rfl, rfl, hbel⟩ := hrel
    by_cases hk5 : k < 5
    · obtain ⟨s, hs⟩ : ∃ s, s = setB (ofQ job k) l := ⟨_, rfl⟩
      obtain ⟨a, ha⟩ : ∃ a, a = setB (allQ job k) l := ⟨_, rfl⟩
      obtain ⟨a', ha'⟩ : ∃ a', a' = setB (allQ job (k + 1)) l := ⟨_, rfl⟩
      have hs64 : s < 2 ^ 64 := by rw [hs]; exact setB_lt64 _ (by omega)
      have ha64 : a < 2 ^ 64 := by rw [ha]; exact setB_lt64 _ (by omega)
      have hand := bits_and s a hs64 ha64
      have hor := bits_or a s ha64 hs64
      rw [hs, ha, all_and, ← hs, ← ha] at hand
      rw [hs, ha, all_or, ← hs, ← ha, ← ha'] at hor
      have hnone : 0 < job → k = 0 ∨ k = 4 → s = 0 := fun hj hk => by rw [hs]; exact of_none HFine.out hj hk
      have HOf := Lib.hid (fof_any A l.length c l job k wr (HH.out.st.below hbel) HH.out.max)
      rw [HWN.out, ← hs] at HOf
      rw [← ha]
      have HA' := Lib.hid ha'
      simp only [Int.natCast_zero] at hand
      have hkle : (k : Int) ≤ 4 := by omega
      have HFin : Hid (SetsRel W l job (.int .u64 (a' : Int)) (.int .i64 ((k : Int) + 1)) wr → True) := fun _ => trivial
      clear hs ha ha' hs64 ha64
      by_cases hj : 0 < job
      · by_cases h04 : k = 0 ∨ k = 4
        · have hs0 := hnone hj h04
          subst hs0
          have hn0 : ((0 : Int) != 0) = false := by simp
          clear hnone h04
          go_wp2_with fail
          refine HOf.out.mono ?_
          rintro e w2 ⟨rfl, b2⟩
          simp only [Int.natCast_zero] at *
          go_wp2_with fail
          exact ⟨⟨k + 1, by omega, by rw [← HA'.out], by go_num, below_step hbel b2⟩, by simp [intOf]; omega⟩
        · have e0 : ((k : Int) == 0) = false := by rw [beq_eq_false_iff_ne]; omega
          have e4 : ((k : Int) == 4) = false := by rw [beq_eq_false_iff_ne]; omega
          have e0' : (k == 0) = false := by rw [beq_eq_false_iff_ne]; omega
          have e4' : (k == 4) = false := by rw [beq_eq_false_iff_ne]; omega
          clear hnone h04
          by_cases hz : s = 0
          · have hn0 : ((s : Int) != 0) = false := by simp [hz]
            have hn0' : (s != 0) = false := by simp [hz]
            clear hz
            go_wp2_with fail
            refine HOf.out.mono ?_
            rintro e w2 ⟨rfl, b2⟩
            go_wp2_with fail
            exact ⟨⟨k + 1, by omega, by rw [← HA'.out], by go_num, below_step hbel b2⟩, by simp [intOf]; omega⟩
          · have hn0 : ((s : Int) != 0) = true := by rw [bne_iff_ne]; omega
            have hn0' : (s != 0) = true := by rw [bne_iff_ne]; exact hz
            clear hz
            go_wp2_with fail
            refine HOf.out.mono ?_
            rintro e w2 ⟨rfl, b2⟩
            go_wp2_with fail
            exact ⟨⟨k + 1, by omega, by rw [← HA'.out], by go_num, below_step hbel b2⟩, by simp [intOf]; omega⟩
      · have hj' : job ≤ 0 := by omega
        clear hnone
        go_wp2_with fail
        refine HOf.out.mono ?_
        rintro e w2 ⟨rfl, b2⟩
        go_wp2_with fail
        exact ⟨⟨k + 1, by omega, by rw [← HA'.out], by go_num, below_step hbel b2⟩, by simp [intOf]; omega⟩
    · obtain rfl : k = 5 := by omega
      have hae := all_end (job := job) HFine.out
      obtain ⟨a, ha⟩ : ∃ a, a = setB (allQ job 5) l := ⟨_, rfl⟩
      have hcnt := memL_count (fun x => x.jb == job) l (by omega)
      rw [← hae, ← ha] at hcnt
      have ha64 : a < 2 ^ 64 := by rw [ha]; exact setB_lt64 _ (by omega)
      have HCnt := Lib.hid hcnt
      rw [← ha]
      clear ha hae hcnt
      go_wp2_with fail
      go_loopw [8, 9] (fun X Y wq => CntRel wr l job X Y wq) (fun _ Y _ => l.length - (intOf Y).toNat)
      case atStart => exact ⟨0, by omega, by simp, rfl, rfl⟩
      case round =>
        obtain ⟨j, hj, rfl, rfl, rfl⟩ := hrel
        by_cases hjl : j < l.length
        · obtain ⟨b, off, s, rfl, hb, hs, d0, d1, d2, d3, d4, d5, d6⟩ := Lst.seven (HH.out.st.below hbel) hjl
          have HSt := Lib.hid (filter_step (job := job) hs)
          have hle : ((l.take j).filter (fun x => x.jb == job)).length ≤ j := Nat.le_trans (List.length_filter_le _ _) (List.length_take_le _ _)
          obtain ⟨m, hm⟩ : ∃ m, m = ((l.take j).filter (fun x => x.jb == job)).length := ⟨_, rfl⟩
          rw [← hm] at HSt hle ⊢
          clear hs hm
          cases hq : (s.jb == job)
          · rw [hq] at HSt
            go_wp2_with fail
            exact ⟨⟨j + 1, by omega, by rw [HSt.out]; simp, by go_num, rfl⟩, by simp [intOf]; omega⟩
          · rw [hq] at HSt
            go_wp2_with fail
            exact ⟨⟨j + 1, by omega, by rw [HSt.out]; simp, by go_num, rfl⟩, by simp [intOf]; omega⟩
        · obtain rfl : j = l.length := by omega
          rw [List.take_length]
          have hd := bits_andNot (setB freeQ l) (setB upQ l)
          rw [free_up] at hd
          obtain ⟨f1, hf1⟩ : ∃ f1, f1 = setB freeQ l := ⟨_, rfl⟩
          obtain ⟨u1, hu1⟩ : ∃ u1, u1 = setB upQ l := ⟨_, rfl⟩
          rw [← hf1] at hd HFr
          rw [← hu1] at hd HUp
          obtain ⟨m, hm⟩ : ∃ m, m = (l.filter (fun x => x.jb == job)).length := ⟨_, rfl⟩
          rw [← hm] at HCnt ⊢
          simp only [Int.natCast_zero] at hd
          clear hf1 hu1 hm
          go_wp2_with fail
          refine (HFr.out _ hbel).mono ?_
          rintro e w2 ⟨rfl, b2⟩
          have b02 := below_step hbel b2
          go_wp2_with fail
          refine (HUp.out _ b02).mono ?_
          rintro e w3 ⟨rfl, b3⟩
          have b03 := below_step b02 b3
          have HLs := Lib.hid (rlist_any a w3 ha64)
          go_wp2_with fail
          refine HLs.out.mono ?_
          rintro e w4 ⟨A4, c4, rfl, o4, b4⟩
          have b04 := below_step b03 b4
          rw [HCnt.out]
          have e1 : ((m : Int) == (m : Int)) = true := by simp
          have e1' : (m == m) = true := by simp
          clear o4
          go_wp2_with fail
          refine (HAw.out _).mono ?_
          rintro e w5 ⟨rfl, b5⟩
          go_wp2_with fail
          go_ret
          exact ⟨rfl, below_step b04 b5⟩
end Go.Proofs.Ytdamocjbkdknaaa.FleetW
