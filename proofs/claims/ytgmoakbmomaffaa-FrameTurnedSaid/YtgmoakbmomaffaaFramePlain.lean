/-
  Frames as plain data: numbers of width 4, frames laid and read. Nothing of the program.
-/
import Derived.Test.YtgmoakbmomaffaaPackPlain
import Derived.Test.YtgmoakbmomaffaaPackBackPlain
import Derived.Test.YtgmoakbmomaffaaSumsPlain
namespace Go.Proofs.Ytgmoakbmomaffaa.Frm
open Pack
set_option linter.unusedVariables false

/-- numbers of one width, one behind the other, or none -/
def nums (w : Int) (l : List Int) : List UInt8 × Bool := if l.all (fun n => fitB n w) then (l.flatMap (fun n => be w.toNat n.toNat), true) else ([], false)
theorem nums_yes {w : Int} {l : List Int} (h : l.all (fun n => fitB n w) = true) : nums w l = (l.flatMap (fun n => be w.toNat n.toNat), true) := by rw [nums, if_pos h]
theorem nums_no {w : Int} {l : List Int} (h : l.all (fun n => fitB n w) = false) : nums w l = ([], false) := by rw [nums, if_neg (by simp [h])]
def four (n : Int) : List UInt8 := be 4 n.toNat
theorem four_len (n : Int) : (four n).length = 4 := be_length _ _
def sumL (s : List UInt8) : List UInt8 := be 4 (Sums.more 1 s).toNat
theorem sumL_len (s : List UInt8) : (sumL s).length = 4 := be_length _ _
def hd (life seq : Int) (body : List UInt8) : List UInt8 := 77 :: (four body.length ++ four life ++ four seq ++ body)
theorem hd_len (life seq : Int) (body : List UInt8) : (hd life seq body).length = 13 + body.length := by simp [hd, four_len]; omega
def put (life seq : Int) (body : List UInt8) : List UInt8 × Int :=
  if (fitB life 4 && fitB seq 4) = false then ([], 2) else if 200000 < body.length then ([], 3) else (hd life seq body ++ sumL (hd life seq body), 0)
theorem put_arg {life seq : Int} {body : List UInt8} (h : (fitB life 4 && fitB seq 4) = false) : put life seq body = ([], 2) := by rw [put, if_pos h]
theorem put_big {life seq : Int} {body : List UInt8} (h : (fitB life 4 && fitB seq 4) = true) (h2 : 200000 < body.length) : put life seq body = ([], 3) := by rw [put, if_neg (by simp [h]), if_pos h2]
theorem put_ok {life seq : Int} {body : List UInt8} (h : (fitB life 4 && fitB seq 4) = true) (h2 : ¬ 200000 < body.length) : put life seq body = (hd life seq body ++ sumL (hd life seq body), 0) := by rw [put, if_neg (by simp [h]), if_neg h2]
theorem fit4 {n : Int} : fitB n 4 = true ↔ 0 ≤ n ∧ n < 4294967296 := by
  simp [fitB, isW]
theorem fit4_no {n : Int} : fitB n 4 = false ↔ n < 0 ∨ 4294967296 ≤ n := by
  rw [← Bool.not_eq_true, fit4]
  omega
/-- the number of width 4 at a place -/
def n4 (t : List UInt8) (i : Nat) : Nat := num ((t.drop i).take 4)
theorem n4_lt (t : List UInt8) (i : Nat) : n4 t i < 4294967296 := by
  have h := num_lt ((t.drop i).take 4)
  have h2 : ((t.drop i).take 4).length ≤ 4 := List.length_take_le _ _
  have h3 : 256 ^ ((t.drop i).take 4).length ≤ 256 ^ 4 := Nat.pow_le_pow_right (by omega) h2
  unfold n4
  omega
theorem take4 {s : List UInt8} {a : Int} {k : Nat} (ha : a = (k : Int)) (h : k + 4 ≤ s.length) : takeNum s a 4 = (((n4 s k : Nat) : Int), a + 4, 0) := by
  subst ha
  have hn := n4_lt s k
  unfold n4 at hn ⊢
  unfold takeNum
  rw [if_neg (by simp [isW]; omega), if_neg (by omega)]
  simp only [Int.toNat_natCast, show (4 : Int).toNat = 4 from rfl]
  rw [if_neg (by omega)]
theorem n4_drop (s : List UInt8) (a i : Nat) : n4 (s.drop a) i = n4 s (a + i) := by rw [n4, n4, List.drop_drop]
abbrev Got := Int × Int × List UInt8 × Int × Int
def bad (e : Int) : Got := (0, 0, [], 0, e)
def getT (t : List UInt8) (a : Int) : Got :=
  if t.length < 13 then bad 30 else if t[0]? ≠ some 77 then bad 241 else if 200000 < n4 t 1 then bad 3 else if t.length < 17 + n4 t 1 then bad 30
  else if Sums.more 1 (t.take (13 + n4 t 1)) ≠ ((n4 t (13 + n4 t 1) : Nat) : Int) then bad 240 else (((n4 t 5 : Nat) : Int), ((n4 t 9 : Nat) : Int), (t.drop 13).take (n4 t 1), a + ((17 + n4 t 1 : Nat) : Int), 0)
def get (s : List UInt8) (a : Int) : Got := if a < 0 ∨ (s.length : Int) < a then bad 2 else getT (s.drop a.toNat) a
theorem get_arg {s : List UInt8} {a : Int} (h : a < 0 ∨ (s.length : Int) < a) : get s a = bad 2 := by rw [get, if_pos h]
theorem get_in {s : List UInt8} {a : Nat} (h : a ≤ s.length) : get s (a : Int) = getT (s.drop a) (a : Int) := by rw [get, if_neg (by omega), Int.toNat_natCast]
section
variable {t : List UInt8} {a : Int}
theorem getT_short (h : t.length < 13) : getT t a = bad 30 := by rw [getT, if_pos h]
theorem getT_sign (h : 13 ≤ t.length) (h1 : t[0]? ≠ some 77) : getT t a = bad 241 := by rw [getT, if_neg (by omega), if_pos h1]
theorem getT_big (h : 13 ≤ t.length) (h1 : t[0]? = some 77) (h2 : 200000 < n4 t 1) : getT t a = bad 3 := by rw [getT, if_neg (by omega), if_neg (by simp [h1]), if_pos h2]
theorem getT_short2 (h : 13 ≤ t.length) (h1 : t[0]? = some 77) (h2 : n4 t 1 ≤ 200000) (h3 : t.length < 17 + n4 t 1) : getT t a = bad 30 := by rw [getT, if_neg (by omega), if_neg (by simp [h1]), if_neg (by omega), if_pos h3]
theorem getT_sum (h : 13 ≤ t.length) (h1 : t[0]? = some 77) (h2 : n4 t 1 ≤ 200000) (h3 : 17 + n4 t 1 ≤ t.length) (h4 : Sums.more 1 (t.take (13 + n4 t 1)) ≠ ((n4 t (13 + n4 t 1) : Nat) : Int)) : getT t a = bad 240 := by
  rw [getT, if_neg (by omega), if_neg (by simp [h1]), if_neg (by omega), if_neg (by omega), if_pos h4]
theorem getT_ok (h : 13 ≤ t.length) (h1 : t[0]? = some 77) (h2 : n4 t 1 ≤ 200000) (h3 : 17 + n4 t 1 ≤ t.length) (h4 : Sums.more 1 (t.take (13 + n4 t 1)) = ((n4 t (13 + n4 t 1) : Nat) : Int)) : getT t a = (((n4 t 5 : Nat) : Int), ((n4 t 9 : Nat) : Int), (t.drop 13).take (n4 t 1), a + ((17 + n4 t 1 : Nat) : Int), 0) := by
  rw [getT, if_neg (by omega), if_neg (by simp [h1]), if_neg (by omega), if_neg (by omega), if_neg (by simp [h4])]
theorem getT_err (h : (getT t a).2.2.2.2 = 0) : 13 ≤ t.length ∧ t[0]? = some 77 ∧ n4 t 1 ≤ 200000 ∧ 17 + n4 t 1 ≤ t.length ∧ Sums.more 1 (t.take (13 + n4 t 1)) = ((n4 t (13 + n4 t 1) : Nat) : Int) := by
  unfold getT at h
  split at h
  · cases h
  · split at h
    · cases h
    · split at h
      · cases h
      · split at h
        · cases h
        · split at h
          · cases h
          · next g1 g2 g3 g4 g5 => exact ⟨by omega, by simpa using g2, by omega, by omega, by simpa using g5⟩
end
/-- a sum's bytes are these four just where it is their number -/
theorem sumL_eq {s q : List UInt8} (hq : q.length = 4) : sumL s = q ↔ Sums.more 1 s = ((num q : Nat) : Int) := by
  have hb := Sums.more_bd 1 s
  constructor
  · intro h
    have h2 := num_be 4 (Sums.more 1 s).toNat (by omega)
    unfold sumL at h
    rw [h] at h2
    omega
  · intro h
    unfold sumL
    rw [h, Int.toNat_natCast, ← hq, be_num]
theorem get_bd (s : List UInt8) (a : Int) : 0 ≤ (get s a).1 ∧ (get s a).1 < 4294967296 ∧ 0 ≤ (get s a).2.1 ∧ (get s a).2.1 < 4294967296 ∧ 0 ≤ (get s a).2.2.2.1 ∧ (get s a).2.2.2.1 ≤ s.length ∧ (get s a).2.2.1.length ≤ 200000 ∧ 0 ≤ (get s a).2.2.2.2 ∧ (get s a).2.2.2.2 ≤ 241 := by
  by_cases h : a < 0 ∨ (s.length : Int) < a
  · rw [get_arg h]
    simp [bad]
  · obtain ⟨k, rfl⟩ : ∃ k : Nat, a = (k : Int) := ⟨a.toNat, by omega⟩
    have hk : k ≤ s.length := by omega
    rw [get_in hk]
    by_cases h0 : (getT (s.drop k) (k : Int)).2.2.2.2 = 0
    · obtain ⟨g1, g2, g3, g4, g5⟩ := getT_err h0
      rw [getT_ok g1 g2 g3 g4 g5]
      have q1 := n4_lt (s.drop k) 5
      have q2 := n4_lt (s.drop k) 9
      have q3 : (s.drop k).length = s.length - k := by simp
      have q4 : (((s.drop k).drop 13).take (n4 (s.drop k) 1)).length ≤ n4 (s.drop k) 1 := List.length_take_le _ _
      refine ⟨?_, ?_, ?_, ?_, ?_, ?_, ?_, ?_, ?_⟩ <;> simp only <;> omega
    · unfold getT at h0 ⊢
      split
      · simp [bad]
      · split
        · simp [bad]
        · split
          · simp [bad]
          · split
            · simp [bad]
            · split
              · simp [bad]
              · next g1 g2 g3 g4 g5 => rw [if_neg g1, if_neg g2, if_neg g3, if_neg g4, if_neg g5] at h0; exact absurd rfl h0
theorem get_zero {s : List UInt8} {a : Int} (h : (get s a).2.2.2.2 ≠ 0) : get s a = bad (get s a).2.2.2.2 := by
  by_cases h1 : a < 0 ∨ (s.length : Int) < a
  · rw [get_arg h1]; rfl
  · rw [get, if_neg h1] at h ⊢
    unfold getT at h ⊢
    split
    · rfl
    · split
      · rfl
      · split
        · rfl
        · split
          · rfl
          · split
            · rfl
            · next g1 g2 g3 g4 g5 => rw [if_neg g1, if_neg g2, if_neg g3, if_neg g4, if_neg g5] at h; exact absurd rfl h
/-- what is read goes on by 17 bytes at least -/
theorem get_on {s : List UInt8} {a : Nat} (h : (get s (a : Int)).2.2.2.2 = 0) : (a : Int) + 17 ≤ (get s (a : Int)).2.2.2.1 ∧ (get s (a : Int)).2.2.2.1 ≤ s.length := by
  by_cases ha : a ≤ s.length
  · rw [get_in ha] at h ⊢
    obtain ⟨g1, g2, g3, g4, g5⟩ := getT_err h
    rw [getT_ok g1 g2 g3 g4 g5]
    simp only [List.length_drop] at g4 ⊢
    omega
  · rw [get_arg (by omega)] at h
    cases h
/-- frames, one behind the other: the bodies and the places behind them -/
def frs (s : List UInt8) : Nat → Nat → List (List UInt8 × Int)
  | 0, _ => []
  | f + 1, a => if (get s (a : Int)).2.2.2.2 = 0 then ((get s (a : Int)).2.2.1, (get s (a : Int)).2.2.2.1) :: frs s f (get s (a : Int)).2.2.2.1.toNat else []
def all (s : List UInt8) : List (List UInt8 × Int) := frs s (s.length + 1) 0
def lastTo (l : List (List UInt8 × Int)) : Int := (l.getLast?.map (·.2)).getD 0
theorem lastTo_snoc (l : List (List UInt8 × Int)) (x : List UInt8 × Int) : lastTo (l ++ [x]) = x.2 := by simp [lastTo]
/-- k frames have been read, the next one begins at a -/
structure At (s : List UInt8) (k a : Nat) : Prop where
  le : k ≤ (all s).length
  up : 17 * k ≤ a
  to : a ≤ s.length
  rest : frs s (s.length + 1 - k) a = (all s).drop k
  last : lastTo ((all s).take k) = (a : Int)
theorem at_start (s : List UInt8) : At s 0 0 := ⟨by omega, by omega, by omega, rfl, rfl⟩
theorem at_step {s : List UInt8} {k a : Nat} (h : At s k a) (h0 : (get s (a : Int)).2.2.2.2 = 0) :
    k < (all s).length ∧ (all s)[k]? = some ((get s (a : Int)).2.2.1, (get s (a : Int)).2.2.2.1) ∧ At s (k + 1) (get s (a : Int)).2.2.2.1.toNat := by
  obtain ⟨o1, o2⟩ := get_on h0
  have hk := h.up
  have ht := h.to
  have hr := h.rest
  obtain ⟨f, hf⟩ : ∃ f, s.length + 1 - k = f + 1 := ⟨s.length - k, by omega⟩
  rw [hf, frs, if_pos h0] at hr
  have hlt : k < (all s).length := by
    rcases Nat.lt_or_ge k (all s).length with h' | h'
    · exact h'
    · rw [List.drop_eq_nil_of_le h'] at hr; cases hr
  have hg : (all s)[k]? = some ((get s (a : Int)).2.2.1, (get s (a : Int)).2.2.2.1) := by
    rw [List.drop_eq_getElem_cons hlt] at hr
    injection hr with h1 h2
    rw [List.getElem?_eq_getElem hlt, ← h1]
  refine ⟨hlt, hg, ⟨by omega, by omega, by omega, ?_, ?_⟩⟩
  · rw [show s.length + 1 - (k + 1) = f by omega]
    rw [List.drop_eq_getElem_cons hlt] at hr
    injection hr with h1 h2
  · rw [List.take_succ_eq_append_getElem hlt, lastTo_snoc]
    rw [List.getElem?_eq_getElem hlt] at hg
    injection hg with hg
    rw [hg]
    simp only
    omega
theorem at_end {s : List UInt8} {k a : Nat} (h : At s k a) (h0 : (get s (a : Int)).2.2.2.2 ≠ 0) : k = (all s).length ∧ lastTo (all s) = (a : Int) := by
  have hr := h.rest
  have hk := h.up
  have ht := h.to
  have hle := h.le
  obtain ⟨f, hf⟩ : ∃ f, s.length + 1 - k = f + 1 := ⟨s.length - k, by omega⟩
  rw [hf, frs, if_neg h0] at hr
  have hlen := congrArg List.length hr
  simp at hlen
  have hke : k = (all s).length := by omega
  refine ⟨hke, ?_⟩
  have := h.last
  rwa [hke, List.take_length] at this
theorem all_few (s : List UInt8) : ∀ k a, At s k a → 17 * k ≤ s.length := fun k a h => by have := h.up; have := h.to; omega
theorem frs_len (s : List UInt8) : ∀ f a, a ≤ s.length → 17 * (frs s f a).length ≤ s.length - a := by
  intro f
  induction f with
  | zero => intro a _; simp [frs]
  | succ f ih =>
    intro a ha
    rw [frs]
    split
    · next h =>
      obtain ⟨o1, o2⟩ := get_on h
      have := ih (get s (a : Int)).2.2.2.1.toNat (by omega)
      simp only [List.length_cons]
      omega
    · simp
theorem all_len (s : List UInt8) : 17 * (all s).length ≤ s.length := by have := frs_len s (s.length + 1) 0 (by omega); unfold all; omega
theorem frs_body (s : List UInt8) : ∀ f a, ∀ x ∈ frs s f a, x.1.length ≤ 200000 := by
  intro f
  induction f with
  | zero => intro a x hx; simp [frs] at hx
  | succ f ih =>
    intro a x hx
    rw [frs] at hx
    split at hx
    · rcases List.mem_cons.1 hx with h | h
      · subst h
        exact (get_bd s (a : Int)).2.2.2.2.2.2.1
      · exact ih _ x h
    · simp at hx
theorem all_body (s : List UInt8) : ∀ x ∈ all s, x.1.length ≤ 200000 := frs_body s _ _
end Go.Proofs.Ytgmoakbmomaffaa.Frm
