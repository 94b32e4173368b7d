/-
  Contracts of musterref12: bit, Free, Up, Of, New.
-/
import Derived.Test.YtdamocjbkdknaaaFleetRef2
import Derived.Test.YtdamocjbkdknaaaFleetWhere
import Derived.Test.YtdamocjbkdknaaaFleetNew
namespace Go.Proofs.Ytdamocjbkdknaaa.FleetW
open Go.RowKit Mem Fleet
set_option linter.unusedVariables false
set_option linter.unusedSimpArgs false
set_option linter.unnecessarySimpa false

set_option maxHeartbeats 1000000 in
theorem rbit_any (n : Nat) (w : World) (hn : n < 64) : Calls Try.prog 51 #[.int .i64 n] w fun e w' => e = .returned (.int .u64 ((2 ^ n : Nat) : Int)) ∧ w = w' := by
  go_enter Try.func51, Try.ntmps51
  go_wp2_with fail
  go_loop [3, 4] (fun s i => ∃ k : Nat, k ≤ n ∧ i = .int .i64 k ∧ s = .int .u64 ((2 ^ k : Nat) : Int)) (fun _ i => n - (intOf i).toNat)
  case atStart => exact ⟨0, by omega, rfl, rfl⟩
  case round =>
    obtain ⟨k, hk, rfl, rfl⟩ := hrel
    by_cases hlt : k < n
    · obtain ⟨P, hP⟩ : ∃ P, P = 2 ^ k := ⟨_, rfl⟩
      have h1 : 2 ^ (k + 1) ≤ 2 ^ 63 := Nat.pow_le_pow_right (by omega) (by omega)
      rw [Nat.pow_succ, ← hP] at h1
      have h2 : 2 * (P : Int) ≤ 18446744073709551615 := by omega
      have h3 : (0 : Int) ≤ 2 * (P : Int) := by omega
      have HP := Lib.hid hP
      rw [← hP]
      clear hP h1
      go_wp2_with fail
      go_round
      case rel => exact ⟨k + 1, by omega, by go_num, by rw [Nat.pow_succ, ← HP.out, Nat.mul_comm]; go_num⟩
      case measure => simp [intOf]; omega
    · obtain rfl : k = n := by omega
      obtain ⟨P, hP⟩ : ∃ P, P = 2 ^ k := ⟨_, rfl⟩
      rw [← hP]
      have HP2 := Lib.hid hP
      clear hP
      go_wp2_with fail
      go_ret
      exact ⟨ret_int (by rw [HP2.out]; simp), rfl⟩
theorem rbit_is (P n : Nat) (w : World) (hn : n < 64) (hp : P = 2 ^ n) : Calls Try.prog 51 #[.int .i64 n] w fun e w' => e = .returned (.int .u64 (P : Int)) ∧ w = w' := by rw [hp]; exact rbit_any n w hn
def RWRel (w : World) (q : Nd → Bool) (l : List Nd) (X Y : Value) (wr : World) : Prop := ∃ k : Nat, k ≤ l.length ∧ X = .int .u64 ((setB q (l.take k) : Nat) : Int) ∧ Y = .int .i64 k ∧ Below w.heap.size w wr
set_option maxHeartbeats 1000000 in
set_option maxRecDepth 100000 in
theorem rfree_any (A : Option Addr) (n c : Nat) (l : List Nd) (w : World) (h : Nds w A n l) (hn : n ≤ maxLen) :
    Calls Try.prog 22 #[.slice A n c] w (Ret (.int .u64 (whereN freeQ l : Int)) w) := by
  have hlen := h.len
  subst hlen
  have HCk := Lib.hid (rcheck_any A l.length c l w h hn)
  cases hck : chk l
  · rw [chkE_no hck] at HCk
    have HP : Hid (whereN freeQ l = 0) := by show _ = _; simp [whereN, hck]
    clear hck h
    go_enter Try.func22, Try.ntmps22
    go_wp2_with fail
    refine HCk.out.mono ?_
    rintro e w1 ⟨rfl, b1⟩
    go_wp2_with fail
    go_ret
    rw [HP.out]
    exact ⟨rfl, b1⟩
  · rw [chkE_yes hck] at HCk
    have hfew := (chk_iff.1 hck).few
    have HP : Hid (whereN freeQ l = setB freeQ l) := by show _ = _; simp [whereN, hck]
    have HH := Lib.hid h
    clear hck h
    go_enter Try.func22, Try.ntmps22
    go_wp2_with fail
    refine HCk.out.mono ?_
    rintro e w1 ⟨rfl, b1⟩
    go_wp2_with fail
    go_loopw [3, 4] (fun X Y wr => RWRel w freeQ l X Y wr) (fun _ Y _ => l.length - (intOf Y).toNat)
    case atStart => exact ⟨0, by omega, rfl, rfl, b1⟩
    case round =>
      obtain ⟨k, hk, rfl, rfl, hbel⟩ := hrel
      by_cases hlt : k < l.length
      · obtain ⟨b, off, s, rfl, hb, hs, d0, d1, d2, d3, d4, d5, d6⟩ := Lst.seven (HH.out.below hbel) hlt
        have hst := setB_take (q := freeQ) hs
        have hlt1 := setB_lt freeQ (l.take k)
        have hlk : (l.take k).length = k := by rw [List.length_take]; omega
        rw [hlk] at hlt1
        have h1 : 2 ^ (k + 1) ≤ 2 ^ 48 := Nat.pow_le_pow_right (by omega) (by omega)
        rw [Nat.pow_succ] at h1
        obtain ⟨P, hP⟩ : ∃ P, P = 2 ^ k := ⟨_, rfl⟩
        obtain ⟨T, hT⟩ : ∃ T, T = setB freeQ (l.take k) := ⟨_, rfl⟩
        rw [← hP] at hst h1 hlt1
        rw [← hT] at hst hlt1 ⊢
        have HB := Lib.hid (rbit_is P k wr (by omega) hP)
        have HT := Lib.hid hT
        have h2 : (T : Int) + (P : Int) ≤ 18446744073709551615 := by omega
        have h3 : (0 : Int) ≤ (T : Int) + (P : Int) := by omega
        have h4 : (T : Int) + (P : Int) = ((T + P : Nat) : Int) := by omega
        have H4 := Lib.hid h4
        clear hs hP hT hlk h4
        cases hc1 : (s.st == 0)
        · have HV : Hid (setB freeQ (l.take (k + 1)) = T) := by
            show _ = _
            have : freeQ s = false := by simp [freeQ, hc1]
            rw [hst, this]
            simp
          clear hst
          go_wp2_with fail
          exact ⟨⟨k + 1, by omega, by rw [HV.out], by go_num, hbel⟩, by simp [intOf]; omega⟩
        · cases hc2 : (s.dr)
          · have HV : Hid (setB freeQ (l.take (k + 1)) = T + P) := by
              show _ = _
              have : freeQ s = true := by simp [freeQ, hc1, hc2]
              rw [hst, this]
              simp
            clear hst
            rw [hc2] at d3
            go_wp2_with fail
            refine HB.out.mono ?_
            rintro e w2 ⟨rfl, rfl⟩
            go_wp2_with fail
            exact ⟨⟨k + 1, by omega, by rw [HV.out, ← H4.out], by go_num, hbel⟩, by simp [intOf]; omega⟩
          · have HV : Hid (setB freeQ (l.take (k + 1)) = T) := by
              show _ = _
              have : freeQ s = false := by simp [freeQ, hc1, hc2]
              rw [hst, this]
              simp
            clear hst
            rw [hc2] at d3
            go_wp2_with fail
            exact ⟨⟨k + 1, by omega, by rw [HV.out], by go_num, hbel⟩, by simp [intOf]; omega⟩
      · obtain rfl : k = l.length := by omega
        have HFin : Hid (setB freeQ (l.take l.length) = whereN freeQ l) := by show _ = _; rw [List.take_length, HP.out]
        rw [HFin.out]
        go_wp2_with fail
        go_ret
        exact ⟨rfl, hbel⟩
set_option maxHeartbeats 1000000 in
set_option maxRecDepth 100000 in
theorem rup_any (A : Option Addr) (n c : Nat) (l : List Nd) (w : World) (h : Nds w A n l) (hn : n ≤ maxLen) :
    Calls Try.prog 24 #[.slice A n c] w (Ret (.int .u64 (whereN upQ l : Int)) w) := by
  have hlen := h.len
  subst hlen
  have HCk := Lib.hid (rcheck_any A l.length c l w h hn)
  cases hck : chk l
  · rw [chkE_no hck] at HCk
    have HP : Hid (whereN upQ l = 0) := by show _ = _; simp [whereN, hck]
    clear hck h
    go_enter Try.func24, Try.ntmps24
    go_wp2_with fail
    refine HCk.out.mono ?_
    rintro e w1 ⟨rfl, b1⟩
    go_wp2_with fail
    go_ret
    rw [HP.out]
    exact ⟨rfl, b1⟩
  · rw [chkE_yes hck] at HCk
    have hfew := (chk_iff.1 hck).few
    have HP : Hid (whereN upQ l = setB upQ l) := by show _ = _; simp [whereN, hck]
    have HH := Lib.hid h
    clear hck h
    go_enter Try.func24, Try.ntmps24
    go_wp2_with fail
    refine HCk.out.mono ?_
    rintro e w1 ⟨rfl, b1⟩
    go_wp2_with fail
    go_loopw [3, 4] (fun X Y wr => RWRel w upQ l X Y wr) (fun _ Y _ => l.length - (intOf Y).toNat)
    case atStart => exact ⟨0, by omega, rfl, rfl, b1⟩
    case round =>
      obtain ⟨k, hk, rfl, rfl, hbel⟩ := hrel
      by_cases hlt : k < l.length
      · obtain ⟨b, off, s, rfl, hb, hs, d0, d1, d2, d3, d4, d5, d6⟩ := Lst.seven (HH.out.below hbel) hlt
        have hst := setB_take (q := upQ) hs
        have hlt1 := setB_lt upQ (l.take k)
        have hlk : (l.take k).length = k := by rw [List.length_take]; omega
        rw [hlk] at hlt1
        have h1 : 2 ^ (k + 1) ≤ 2 ^ 48 := Nat.pow_le_pow_right (by omega) (by omega)
        rw [Nat.pow_succ] at h1
        obtain ⟨P, hP⟩ : ∃ P, P = 2 ^ k := ⟨_, rfl⟩
        obtain ⟨T, hT⟩ : ∃ T, T = setB upQ (l.take k) := ⟨_, rfl⟩
        rw [← hP] at hst h1 hlt1
        rw [← hT] at hst hlt1 ⊢
        have HB := Lib.hid (rbit_is P k wr (by omega) hP)
        have HT := Lib.hid hT
        have h2 : (T : Int) + (P : Int) ≤ 18446744073709551615 := by omega
        have h3 : (0 : Int) ≤ (T : Int) + (P : Int) := by omega
        have h4 : (T : Int) + (P : Int) = ((T + P : Nat) : Int) := by omega
        have H4 := Lib.hid h4
        clear hs hP hT hlk h4
        cases hc1 : (s.st != 4)
        · have HV : Hid (setB upQ (l.take (k + 1)) = T) := by
            show _ = _
            have : upQ s = false := by simp [upQ, hc1]
            rw [hst, this]
            simp
          clear hst
          go_wp2_with fail
          exact ⟨⟨k + 1, by omega, by rw [HV.out], by go_num, hbel⟩, by simp [intOf]; omega⟩
        · cases hc2 : (s.dr)
          · have HV : Hid (setB upQ (l.take (k + 1)) = T + P) := by
              show _ = _
              have : upQ s = true := by simp [upQ, hc1, hc2]
              rw [hst, this]
              simp
            clear hst
            rw [hc2] at d3
            go_wp2_with fail
            refine HB.out.mono ?_
            rintro e w2 ⟨rfl, rfl⟩
            go_wp2_with fail
            exact ⟨⟨k + 1, by omega, by rw [HV.out, ← H4.out], by go_num, hbel⟩, by simp [intOf]; omega⟩
          · have HV : Hid (setB upQ (l.take (k + 1)) = T) := by
              show _ = _
              have : upQ s = false := by simp [upQ, hc1, hc2]
              rw [hst, this]
              simp
            clear hst
            rw [hc2] at d3
            go_wp2_with fail
            exact ⟨⟨k + 1, by omega, by rw [HV.out], by go_num, hbel⟩, by simp [intOf]; omega⟩
      · obtain rfl : k = l.length := by omega
        have HFin : Hid (setB upQ (l.take l.length) = whereN upQ l) := by show _ = _; rw [List.take_length, HP.out]
        rw [HFin.out]
        go_wp2_with fail
        go_ret
        exact ⟨rfl, hbel⟩
set_option maxHeartbeats 1000000 in
set_option maxRecDepth 100000 in
theorem rof_any (A : Option Addr) (n c : Nat) (l : List Nd) (job state : Int) (w : World) (h : Nds w A n l) (hn : n ≤ maxLen) :
    Calls Try.prog 26 #[.slice A n c, .int .i64 job, .int .i64 state] w (Ret (.int .u64 (whereN (ofQ job state) l : Int)) w) := by
  have hlen := h.len
  subst hlen
  have HCk := Lib.hid (rcheck_any A l.length c l w h hn)
  cases hck : chk l
  · rw [chkE_no hck] at HCk
    have HP : Hid (whereN (ofQ job state) l = 0) := by show _ = _; simp [whereN, hck]
    clear hck h
    go_enter Try.func26, Try.ntmps26
    go_wp2_with fail
    refine HCk.out.mono ?_
    rintro e w1 ⟨rfl, b1⟩
    go_wp2_with fail
    go_ret
    rw [HP.out]
    exact ⟨rfl, b1⟩
  · rw [chkE_yes hck] at HCk
    have hfew := (chk_iff.1 hck).few
    have HP : Hid (whereN (ofQ job state) l = setB (ofQ job state) l) := by show _ = _; simp [whereN, hck]
    have HH := Lib.hid h
    clear hck h
    go_enter Try.func26, Try.ntmps26
    go_wp2_with fail
    refine HCk.out.mono ?_
    rintro e w1 ⟨rfl, b1⟩
    go_wp2_with fail
    go_loopw [7, 8] (fun X Y wr => RWRel w (ofQ job state) l X Y wr) (fun _ Y _ => l.length - (intOf Y).toNat)
    case atStart => exact ⟨0, by omega, rfl, rfl, b1⟩
    case round =>
      obtain ⟨k, hk, rfl, rfl, hbel⟩ := hrel
      by_cases hlt : k < l.length
      · obtain ⟨b, off, s, rfl, hb, hs, d0, d1, d2, d3, d4, d5, d6⟩ := Lst.seven (HH.out.below hbel) hlt
        have hst := setB_take (q := (ofQ job state)) hs
        have hlt1 := setB_lt (ofQ job state) (l.take k)
        have hlk : (l.take k).length = k := by rw [List.length_take]; omega
        rw [hlk] at hlt1
        have h1 : 2 ^ (k + 1) ≤ 2 ^ 48 := Nat.pow_le_pow_right (by omega) (by omega)
        rw [Nat.pow_succ] at h1
        obtain ⟨P, hP⟩ : ∃ P, P = 2 ^ k := ⟨_, rfl⟩
        obtain ⟨T, hT⟩ : ∃ T, T = setB (ofQ job state) (l.take k) := ⟨_, rfl⟩
        rw [← hP] at hst h1 hlt1
        rw [← hT] at hst hlt1 ⊢
        have HB := Lib.hid (rbit_is P k wr (by omega) hP)
        have HT := Lib.hid hT
        have h2 : (T : Int) + (P : Int) ≤ 18446744073709551615 := by omega
        have h3 : (0 : Int) ≤ (T : Int) + (P : Int) := by omega
        have h4 : (T : Int) + (P : Int) = ((T + P : Nat) : Int) := by omega
        have H4 := Lib.hid h4
        clear hs hP hT hlk h4
        cases hc1 : (s.jb == job)
        · have HV : Hid (setB (ofQ job state) (l.take (k + 1)) = T) := by
            show _ = _
            have : (ofQ job state) s = false := by simp [ofQ, hc1]
            rw [hst, this]
            simp
          clear hst
          go_wp2_with fail
          exact ⟨⟨k + 1, by omega, by rw [HV.out], by go_num, hbel⟩, by simp [intOf]; omega⟩
        · cases hc2 : (s.st == state)
          · have HV : Hid (setB (ofQ job state) (l.take (k + 1)) = T) := by
              show _ = _
              have : (ofQ job state) s = false := by simp [ofQ, hc1, hc2]
              rw [hst, this]
              simp
            clear hst
            go_wp2_with fail
            exact ⟨⟨k + 1, by omega, by rw [HV.out], by go_num, hbel⟩, by simp [intOf]; omega⟩
          · have HV : Hid (setB (ofQ job state) (l.take (k + 1)) = T + P) := by
              show _ = _
              have : (ofQ job state) s = true := by simp [ofQ, hc1, hc2]
              rw [hst, this]
              simp
            clear hst
            go_wp2_with fail
            refine HB.out.mono ?_
            rintro e w2 ⟨rfl, rfl⟩
            go_wp2_with fail
            exact ⟨⟨k + 1, by omega, by rw [HV.out, ← H4.out], by go_num, hbel⟩, by simp [intOf]; omega⟩
      · obtain rfl : k = l.length := by omega
        have HFin : Hid (setB (ofQ job state) (l.take l.length) = whereN (ofQ job state) l) := by show _ = _; rw [List.take_length, HP.out]
        rw [HFin.out]
        go_wp2_with fail
        go_ret
        exact ⟨rfl, hbel⟩
set_option maxHeartbeats 1000000 in
theorem rnew_any (n : Int) (w : World) : Calls Try.prog 15 #[.int .i64 n] w (NPost (newT n) w) := by
  by_cases h1 : n < 1
  · have HP : Hid (newT n = ([], 2)) := by show _ = _; rw [newT, if_pos (.inl h1)]
    go_enter Try.func15, Try.ntmps15
    go_wp2_with fail
    go_ret2
    rw [HP.out]
    exact ⟨none, 0, rfl, SOwn.nil _ _ _ _, Below.refl _ _⟩
  by_cases h2 : 48 < n
  · have HP : Hid (newT n = ([], 2)) := by show _ = _; rw [newT, if_pos (.inr h2)]
    have h1' : 1 ≤ n := by omega
    clear h1
    go_enter Try.func15, Try.ntmps15
    go_wp2_with fail
    go_ret2
    rw [HP.out]
    exact ⟨none, 0, rfl, SOwn.nil _ _ _ _, Below.refl _ _⟩
  · obtain ⟨N, rfl⟩ : ∃ k : Nat, n = (k : Int) := ⟨n.toNat, by omega⟩
    have HP : Hid (newT (N : Int) = (List.replicate N Nd0, 0)) := by show _ = _; rw [newT, if_neg (by omega), Int.toNat_natCast]
    have hk1 : 1 ≤ N := by omega
    have hk2 : N ≤ 48 := by omega
    have hd1 : decide ((N : Int) < 1) = false := by simp; omega
    have hd2 : decide (48 < (N : Int)) = false := by simp; omega
    have hd3 : ¬ (N : Int) < 1 := by omega
    have hd4 : ¬ 48 < (N : Int) := by omega
    clear h1 h2
    go_enter Try.func15, Try.ntmps15
    go_wp2_with fail
    go_loopw [4, 5] (fun X Y wr => ∃ (k : Nat) (A : Option Addr) (c : Nat), k ≤ N ∧ X = .slice A k c ∧ Y = .int .i64 k ∧ NdsO wr w.heap.size A k c (List.replicate k Nd0) ∧ Below w.heap.size w wr) (fun _ Y _ => N - (intOf Y).toNat)
    case atStart => exact ⟨0, none, 0, by omega, rfl, rfl, SOwn.nil _ _ _ _, Below.refl _ _⟩
    case round =>
      obtain ⟨k, A1, c1, hk, rfl, rfl, ho, hbel⟩ := hrel
      have HO := Lib.hid ho
      clear ho
      by_cases hlt : k < N
      · obtain ⟨V, hV⟩ : ∃ V, V = wr.alloc (.cells #[.int .i64 0, .int .i64 0, .int .i64 0, .bool false, .int .i64 0, .int .i64 0, .int .i64 0] 48) := ⟨_, rfl⟩
        have bV : Below wr.heap.size wr V := by rw [hV]; exact (Below.refl _ _).alloc (Nat.le_refl _) _
        have sV : Nds V (some ⟨wr.heap.size, 0, none⟩) 1 [Nd0] := by rw [hV]; exact Lst.new layN wr Nd0 #[.int .i64 0, .int .i64 0, .int .i64 0, .bool false, .int .i64 0, .int .i64 0, .int .i64 0] 48 rfl
        obtain ⟨A2, c2, w2, hrun, o2, b2, _, _⟩ := app_s layN (P := Try.prog) V w.heap.size 22 22 48 _ 56 Try.underlying22 nodeInfo rfl A1 k c1 _ (HO.out.below bV) (some ⟨wr.heap.size, 0, none⟩) 1 1 [Nd0] sV (by simp only [maxLen]; omega) (by omega) (Nat.le_trans hbel.size bV.size)
        rw [← List.replicate_succ'] at o2
        have HR := Lib.hid hrun
        have HO2 := Lib.hid o2
        rw [hV] at HR
        have b02 := (below_step hbel bV).trans b2
        clear hrun o2 sV hV
        go_wp2_with (at_builtin; refine wpList_app2 rfl _ _ rfl rfl rfl HR.out ?_)
        exact ⟨⟨k + 1, A2, c2, by omega, rfl, by go_num, HO2.out, b02⟩, by simp [intOf]; omega⟩
      · obtain rfl : k = N := by omega
        have HL : Hid ((List.replicate k Nd0).length = k) := by show _ = _; simp
        go_wp2_with fail
        go_ret2
        rw [HP.out]
        unfold NPost
        rw [HL.out]
        exact ⟨A1, c1, rfl, HO.out, hbel⟩
end Go.Proofs.Ytdamocjbkdknaaa.FleetW
