/-
  Events as plain data: which may be, how they are laid and taken.
-/
import Derived.Test.YtgmoakbmomaffaaFramePlain
namespace Go.Proofs.Ytgmoakbmomaffaa.Frm
open Pack
set_option linter.unusedVariables false

structure Ev where
  kd : Int
  ln : List UInt8
  nk : Int
  nn : Int
  nj : Int
  ne : Int
deriving DecidableEq
def fenceB (k : Int) : Bool := k == 6 || k == 13
def jobB (k j : Int) : Bool := if fenceB k then j == 0 else decide (1 ≤ j) && decide (j ≤ 99999)
def knownB (k : Int) : Bool := decide (1 ≤ k) && decide (k ≤ 14)
def noteB (k n j e : Int) : Bool := knownB k && jobB k j && !(decide (n < 0)) && !(decide (48 ≤ n)) && !(decide (e < 0)) && !(decide (999999999 < e))
theorem noteB_bd {k n j e : Int} (h : noteB k n j e = true) : 1 ≤ k ∧ k ≤ 14 ∧ 0 ≤ n ∧ n < 48 ∧ 0 ≤ j ∧ j ≤ 99999 ∧ 0 ≤ e ∧ e ≤ 999999999 := by
  simp only [noteB, knownB, jobB, Bool.and_eq_true, decide_eq_true_eq, Bool.not_eq_true', decide_eq_false_iff_not] at h
  obtain ⟨⟨⟨⟨⟨⟨h1, h2⟩, h3⟩, h4⟩, h5⟩, h6⟩, h7⟩ := h
  split at h3
  · simp at h3
    omega
  · simp at h3
    omega
def bareN (e : Ev) : Bool := e.nk == 0 && e.nn == 0 && e.nj == 0 && e.ne == 0
def evB (e : Ev) : Bool :=
  if e.kd = 1 then decide (e.ln.length ≤ 1000) && bareN e else if e.kd = 2 then e.ln.isEmpty && bareN e else if e.kd = 3 then e.ln.isEmpty && noteB e.nk e.nn e.nj e.ne else false
def evE (e : Ev) : Int := if evB e then 0 else 320
theorem evE_yes {e : Ev} (h : evB e = true) : evE e = 0 := by simp [evE, h]
theorem evE_no {e : Ev} (h : evB e = false) : evE e = 320 := by simp [evE, h]
theorem evB_1 {e : Ev} (h : e.kd = 1) : evB e = (decide (e.ln.length ≤ 1000) && bareN e) := by simp [evB, h]
theorem evB_2 {e : Ev} (h : e.kd = 2) : evB e = (e.ln.isEmpty && bareN e) := by simp [evB, h]
theorem evB_3 {e : Ev} (h : e.kd = 3) : evB e = (e.ln.isEmpty && noteB e.nk e.nn e.nj e.ne) := by simp [evB, h]
theorem evB_0 {e : Ev} (h1 : e.kd ≠ 1) (h2 : e.kd ≠ 2) (h3 : e.kd ≠ 3) : evB e = false := by simp [evB, h1, h2, h3]
theorem evB_kd {e : Ev} (h : evB e = true) : e.kd = 1 ∨ e.kd = 2 ∨ e.kd = 3 := by
  by_cases h1 : e.kd = 1
  · exact .inl h1
  by_cases h2 : e.kd = 2
  · exact .inr (.inl h2)
  by_cases h3 : e.kd = 3
  · exact .inr (.inr h3)
  rw [evB_0 h1 h2 h3] at h
  cases h
def tailL (e : Ev) : List UInt8 := if e.kd = 1 then be 2 e.ln.length ++ e.ln else if e.kd = 3 then be 1 e.nk.toNat ++ be 1 e.nn.toNat ++ (be 4 e.nj.toNat ++ be 4 e.ne.toNat) else []
def lay (e : Ev) : List UInt8 × Int := if evB e then (be 1 e.kd.toNat ++ tailL e, 0) else ([], 320)
theorem lay_yes {e : Ev} (h : evB e = true) : lay e = (be 1 e.kd.toNat ++ tailL e, 0) := by rw [lay, if_pos h]
theorem lay_no {e : Ev} (h : evB e = false) : lay e = ([], 320) := by rw [lay, if_neg (by simp [h])]
theorem tail_1 {e : Ev} (h : e.kd = 1) : tailL e = be 2 e.ln.length ++ e.ln := by rw [tailL, if_pos h]
theorem tail_2 {e : Ev} (h : e.kd = 2) : tailL e = [] := by rw [tailL, if_neg (by omega), if_neg (by omega)]
theorem tail_3 {e : Ev} (h : e.kd = 3) : tailL e = be 1 e.nk.toNat ++ be 1 e.nn.toNat ++ (be 4 e.nj.toNat ++ be 4 e.ne.toNat) := by rw [tailL, if_neg (by omega), if_pos h]
def ev0 : Ev := ⟨0, [], 0, 0, 0, 0⟩
/-- what bytes would be as an event -/
def guess (s : List UInt8) : Ev :=
  if (takeNum s 0 1).1 = 1 then ⟨1, (takeText s 1).1, 0, 0, 0, 0⟩
  else if (takeNum s 0 1).1 = 3 then ⟨3, [], (takeNum s 1 1).1, (takeNum s 2 1).1, (takeNum s 3 4).1, (takeNum s 7 4).1⟩
  else ⟨(takeNum s 0 1).1, [], 0, 0, 0, 0⟩
def take (s : List UInt8) : Ev × Int := if (lay (guess s)).2 ≠ 0 ∨ (lay (guess s)).1 ≠ s then (ev0, 320) else (guess s, 0)
theorem guess_1 {s : List UInt8} (h : (takeNum s 0 1).1 = 1) : guess s = ⟨1, (takeText s 1).1, 0, 0, 0, 0⟩ := by rw [guess, if_pos h]
theorem guess_3 {s : List UInt8} (h : (takeNum s 0 1).1 = 3) : guess s = ⟨3, [], (takeNum s 1 1).1, (takeNum s 2 1).1, (takeNum s 3 4).1, (takeNum s 7 4).1⟩ := by rw [guess, if_neg (by omega), if_pos h]
theorem guess_0 {s : List UInt8} (h : (takeNum s 0 1).1 ≠ 1) (h2 : (takeNum s 0 1).1 ≠ 3) : guess s = ⟨(takeNum s 0 1).1, [], 0, 0, 0, 0⟩ := by rw [guess, if_neg h, if_neg h2]
theorem take_no {s : List UInt8} (h : (lay (guess s)).2 ≠ 0 ∨ (lay (guess s)).1 ≠ s) : take s = (ev0, 320) := by rw [take, if_pos h]
theorem take_yes {s : List UInt8} (h : (lay (guess s)).2 = 0) (h2 : (lay (guess s)).1 = s) : take s = (guess s, 0) := by rw [take, if_neg (by simp [h, h2])]
theorem take_lay {s : List UInt8} (h : (take s).2 = 0) : lay (take s).1 = (s, 0) := by
  unfold take at h ⊢
  split at h
  · cases h
  · next g =>
    rw [if_neg g]
    simp only [not_or, Decidable.not_not] at g
    exact Prod.ext g.2 g.1
theorem lay_err {e : Ev} : (lay e).2 = 0 ∨ lay e = ([], 320) := by
  cases h : evB e
  · exact .inr (lay_no h)
  · exact .inl (by rw [lay_yes h])
theorem take_be1 {p q : List UInt8} {n : Int} (h0 : 0 ≤ n) (h1 : n < 256) : takeNum (p ++ (be 1 n.toNat ++ q)) (p.length : Int) 1 = (n, (p.length : Int) + 1, 0) := by
  have := takeNum_at p q n.toNat 1 rfl (by simp; omega) (by omega)
  rw [show ((n.toNat : Nat) : Int) = n by omega] at this
  exact this
theorem take_be4 {p q : List UInt8} {n : Int} (h0 : 0 ≤ n) (h1 : n < 4294967296) : takeNum (p ++ (be 4 n.toNat ++ q)) (p.length : Int) 4 = (n, (p.length : Int) + 4, 0) := by
  have := takeNum_at p q n.toNat 4 rfl (by simp; omega) (by omega)
  rw [show ((n.toNat : Nat) : Int) = n by omega] at this
  exact this
/-- what is laid is taken as it was -/
theorem lay_take {e : Ev} (h : evB e = true) : take (lay e).1 = (e, 0) := by
  have key : guess (lay e).1 = e := by
    rw [lay_yes h]
    simp only
    rcases evB_kd h with hk | hk | hk
    · rw [evB_1 hk] at h
      simp only [Bool.and_eq_true, decide_eq_true_eq, bareN, beq_iff_eq] at h
      obtain ⟨hl, ⟨⟨h1, h2⟩, h3⟩, h4⟩ := h
      have t0 : takeNum (be 1 e.kd.toNat ++ tailL e) 0 1 = (e.kd, 1, 0) := by have := take_be1 (p := []) (q := tailL e) (n := e.kd) (by omega) (by omega); simpa using this
      have t1 : takeText (be 1 e.kd.toNat ++ tailL e) 1 = (e.ln, (1 : Int) + (be 2 e.ln.length ++ e.ln).length, 0) := by
        rw [tail_1 hk]
        have := takeText_at (be 1 e.kd.toNat) [] e.ln (by omega)
        simpa [be_length] using this
      rw [guess_1 (by rw [t0]; exact hk), t1]
      cases e
      simp_all
    · rw [evB_2 hk] at h
      simp only [Bool.and_eq_true, List.isEmpty_iff, bareN, beq_iff_eq] at h
      obtain ⟨hl, ⟨⟨h1, h2⟩, h3⟩, h4⟩ := h
      have t0 : takeNum (be 1 e.kd.toNat ++ tailL e) 0 1 = (e.kd, 1, 0) := by have := take_be1 (p := []) (q := tailL e) (n := e.kd) (by omega) (by omega); simpa using this
      rw [guess_0 (by rw [t0]; simp only; omega) (by rw [t0]; simp only; omega), t0]
      cases e
      simp_all
    · rw [evB_3 hk] at h
      simp only [Bool.and_eq_true, List.isEmpty_iff] at h
      obtain ⟨hl, hn⟩ := h
      obtain ⟨b1, b2, b3, b4, b5, b6, b7, b8⟩ := noteB_bd hn
      have t0 : takeNum (be 1 e.kd.toNat ++ tailL e) 0 1 = (e.kd, 1, 0) := by have := take_be1 (p := []) (q := tailL e) (n := e.kd) (by omega) (by omega); simpa using this
      have t1 : takeNum (be 1 e.kd.toNat ++ tailL e) 1 1 = (e.nk, 2, 0) := by
        rw [tail_3 hk]
        have := take_be1 (p := be 1 e.kd.toNat) (q := be 1 e.nn.toNat ++ (be 4 e.nj.toNat ++ be 4 e.ne.toNat)) (n := e.nk) (by omega) (by omega)
        simpa [be_length] using this
      have t2 : takeNum (be 1 e.kd.toNat ++ tailL e) 2 1 = (e.nn, 3, 0) := by
        rw [tail_3 hk]
        have := take_be1 (p := be 1 e.kd.toNat ++ be 1 e.nk.toNat) (q := be 4 e.nj.toNat ++ be 4 e.ne.toNat) (n := e.nn) (by omega) (by omega)
        simpa [be_length] using this
      have t3 : takeNum (be 1 e.kd.toNat ++ tailL e) 3 4 = (e.nj, 7, 0) := by
        rw [tail_3 hk]
        have := take_be4 (p := be 1 e.kd.toNat ++ be 1 e.nk.toNat ++ be 1 e.nn.toNat) (q := be 4 e.ne.toNat) (n := e.nj) (by omega) (by omega)
        simpa [be_length] using this
      have t4 : takeNum (be 1 e.kd.toNat ++ tailL e) 7 4 = (e.ne, 11, 0) := by
        rw [tail_3 hk]
        have := take_be4 (p := be 1 e.kd.toNat ++ be 1 e.nk.toNat ++ be 1 e.nn.toNat ++ be 4 e.nj.toNat) (q := []) (n := e.ne) (by omega) (by omega)
        simpa [be_length] using this
      rw [guess_3 (by rw [t0]; exact hk), t1, t2, t3, t4]
      cases e
      simp_all
  rw [take_yes, key]
  · rw [key, lay_yes h]
  · rw [key]
theorem lay_len {e : Ev} : (lay e).1.length ≤ 1003 := by
  cases h : evB e
  · rw [lay_no h]; simp
  · rw [lay_yes h]
    rcases evB_kd h with hk | hk | hk
    · rw [evB_1 hk] at h
      simp only [Bool.and_eq_true, decide_eq_true_eq] at h
      rw [tail_1 hk]
      simp [be_length]
      omega
    · rw [tail_2 hk]; simp [be_length]
    · rw [tail_3 hk]; simp [be_length]
/-- what is framed is read again, wherever it stands -/
theorem put_get {life seq : Int} {body p q : List UInt8} (hf : (fitB life 4 && fitB seq 4) = true) (hb : ¬ 200000 < body.length) :
    get (p ++ ((put life seq body).1 ++ q)) (p.length : Int) = (life, seq, body, (p.length : Int) + (put life seq body).1.length, 0) := by
  simp only [Bool.and_eq_true, fit4] at hf
  rw [put_ok (by simp [fit4, hf]) hb]
  simp only
  rw [get_in (by simp), List.drop_left']
  · have hh : hd life seq body ++ sumL (hd life seq body) ++ q = 77 :: (be 4 body.length ++ (be 4 life.toNat ++ (be 4 seq.toNat ++ (body ++ (sumL (hd life seq body) ++ q))))) := by
      simp [hd, four]
    have nb : n4 (hd life seq body ++ sumL (hd life seq body) ++ q) 1 = body.length := by
      rw [hh]
      unfold n4
      rw [List.drop_succ_cons, List.drop_zero, List.take_left' (be_length _ _), num_be _ _ (by simp; omega)]
    have n5 : n4 (hd life seq body ++ sumL (hd life seq body) ++ q) 5 = life.toNat := by
      rw [hh]
      unfold n4
      rw [List.drop_succ_cons, List.drop_left' (be_length _ _), List.take_left' (be_length _ _), num_be _ _ (by simp; omega)]
    have n9 : n4 (hd life seq body ++ sumL (hd life seq body) ++ q) 9 = seq.toNat := by
      rw [hh]
      unfold n4
      rw [List.drop_succ_cons, ← List.append_assoc, List.drop_left' (by simp [be_length]), List.take_left' (be_length _ _), num_be _ _ (by simp; omega)]
    have hsum := Sums.more_bd 1 (hd life seq body)
    have n13 : n4 (hd life seq body ++ sumL (hd life seq body) ++ q) (13 + body.length) = (Sums.more 1 (hd life seq body)).toNat := by
      unfold n4
      rw [List.append_assoc, List.drop_left' (by rw [hd_len]), List.take_left' (sumL_len _)]
      unfold sumL
      rw [num_be _ _ (by omega)]
    have ht : (hd life seq body ++ sumL (hd life seq body) ++ q).take (13 + body.length) = hd life seq body := by
      rw [List.append_assoc, List.take_left' (by rw [hd_len])]
    rw [getT_ok]
    · rw [nb, n5, n9]
      refine Prod.ext (by simp only; omega) (Prod.ext (by simp only; omega) (Prod.ext ?_ (Prod.ext ?_ rfl)))
      · rw [hh]
        simp only
        rw [List.drop_succ_cons, ← List.append_assoc, ← List.append_assoc, List.drop_left' (by simp [be_length]), List.take_left' rfl]
      · simp only [List.length_append, hd_len, sumL_len]
        omega
    · simp [hd_len]; omega
    · rw [hh]; rfl
    · rw [nb]; omega
    · rw [nb]; simp [hd_len, sumL_len]; omega
    · rw [nb, ht, n13]; omega
  · rfl
end Go.Proofs.Ytgmoakbmomaffaa.Frm
