/-
  Merged: Plain words on numbers and texts as bytes (no program in sight): big-endian bytes, texts behind their lengths, and that laying and taking undo each other.; Plain laws of layer 3: what was laid is taken again, wherever it stands; what is taken, laid, is the bytes that it was taken from. No program in sight.; Plain arithmetic of the sums (no program in sight): the two parts of a sum over a list of bytes, how they split over an append, and when they differ. No conditions beyond those written.; Frames as plain data: numbers of width 4, frames laid and read. Nothing of the program.; A journal as plain data: what a block says, how it is written, records, what is found in an area.; Words on memory that all of this seat's walks use: a block known whole, a slice that reads as a list of cells, and how both are kept. Nothing of the program.; Words on slices of bytes that a call itself has made out of a string: '[]byte(s)', a store into it, 'string(b)'. Nothing of the program.
-/
import Derived.WalkKit
import Derived.Below
import Derived.OneCell
import Derived.Laws.OwnMore
import Derived.Deep.Draws
import Derived.Laws.Rows
import Derived.Lib.Hide
import Derived.Laws.IdiomStrings
import Derived.Laws.BytesArg
namespace Go.Proofs.Ytdhnegcblnpmfaa.Pack

/-- the lowest w bytes of a number, the highest first -/
def be : Nat → Nat → List UInt8
  | 0, _ => []
  | w + 1, n => be w (n / 256) ++ [UInt8.ofNat n]
/-- the number of some bytes, the highest first -/
def num : List UInt8 → Nat
  | [] => 0
  | c :: l => c.toNat * 256 ^ l.length + num l

theorem be_length (w n : Nat) : (be w n).length = w := by
  induction w generalizing n with
  | zero => rfl
  | succ w ih => simp [be, ih]
theorem be_cons (w n : Nat) : be (w + 1) n = UInt8.ofNat (n / 256 ^ w) :: be w n := by
  induction w generalizing n with
  | zero => simp [be]
  | succ w ih =>
    rw [be, ih (n / 256), be]
    simp [Nat.div_div_eq_div_mul, Nat.pow_succ, Nat.mul_comm]
theorem be_mod (w n : Nat) : be w n = be w (n % 256 ^ w) := by
  induction w generalizing n with
  | zero => rfl
  | succ w ih =>
    rw [be, be]
    have e1 : n % 256 ^ (w + 1) / 256 = n / 256 % 256 ^ w := by
      rw [Nat.pow_succ, Nat.mul_comm, Nat.mod_mul_right_div_self]
    have e2 : UInt8.ofNat (n % 256 ^ (w + 1)) = UInt8.ofNat n := by
      apply UInt8.toNat_inj.1
      simp only [UInt8.toNat_ofNat']
      rw [Nat.pow_succ, Nat.mul_comm]
      exact Nat.mod_mul_right_mod n 256 _
    rw [e1, e2, ← ih]
theorem num_snoc (l : List UInt8) (c : UInt8) : num (l ++ [c]) = num l * 256 + c.toNat := by
  induction l with
  | nil => simp [num]
  | cons d l ih =>
    simp only [List.cons_append, num, ih, List.length_append, List.length_singleton, Nat.pow_succ, Nat.add_mul, Nat.mul_assoc]
    omega
theorem num_lt (l : List UInt8) : num l < 256 ^ l.length := by
  induction l with
  | nil => simp [num]
  | cons d l ih =>
    simp only [num, List.length_cons, Nat.pow_succ]
    have hd := d.toNat_lt
    have : d.toNat * 256 ^ l.length ≤ 255 * 256 ^ l.length := Nat.mul_le_mul_right _ (by omega)
    omega
theorem num_be (w n : Nat) (h : n < 256 ^ w) : num (be w n) = n := by
  induction w generalizing n with
  | zero => simp at h; simp [be, num, h]
  | succ w ih =>
    rw [be, num_snoc, ih (n / 256) (by rw [Nat.pow_succ] at h; omega)]
    have : (UInt8.ofNat n).toNat = n % 256 := by simp
    omega
theorem be_num (l : List UInt8) : be l.length (num l) = l := by
  induction l with
  | nil => rfl
  | cons d l ih =>
    have hl := num_lt l
    have hd := d.toNat_lt
    rw [List.length_cons, be_cons, num]
    have e1 : (d.toNat * 256 ^ l.length + num l) / 256 ^ l.length = d.toNat := by
      rw [Nat.mul_comm, Nat.mul_add_div (Nat.pos_of_ne_zero (by simp)), Nat.div_eq_of_lt hl, Nat.add_zero]
    rw [e1, be_mod, Nat.mul_comm, Nat.mul_add_mod, Nat.mod_eq_of_lt hl, ih]
    congr 1
    apply UInt8.toNat_inj.1
    simp
end Go.Proofs.Ytdhnegcblnpmfaa.Pack
namespace Go.Proofs.Ytdhnegcblnpmfaa.Pack
/-- is a number a width? -/
def isW (w : Int) : Bool := w == 1 || w == 2 || w == 4 || w == 8
theorem isW_of {w : Int} (h : isW w = true) : w = 1 ∨ w = 2 ∨ w = 4 ∨ w = 8 := by
  simp [isW] at h
  omega
theorem not_isW {w : Int} (h : isW w = false) : w ≠ 1 ∧ w ≠ 2 ∧ w ≠ 4 ∧ w ≠ 8 := by
  simp [isW] at h
  omega
/-- does a number fit a width? -/
def fitB (n w : Int) : Bool := isW w && decide (0 ≤ n ∧ n < 256 ^ w.toNat)
/-- a number of a width, laid, or refused -/
def number (n w : Int) : List UInt8 × Int := if fitB n w then (be w.toNat n.toNat, 0) else ([], 2)
/-- a number, taken: the number, the place behind, the error -/
def takeNum (s : List UInt8) (a w : Int) : Int × Int × Int :=
  if a < 0 ∨ (s.length : Int) < a ∨ isW w = false then (0, 0, 2)
  else if (s.length : Int) - a < w then (0, 0, 30)
  else if 9223372036854775807 < num ((s.drop a.toNat).take w.toNat) then (0, 0, 2)
  else ((num ((s.drop a.toNat).take w.toNat) : Nat), a + w, 0)
/-- a text, laid, or refused -/
def text (s : List UInt8) : List UInt8 × Int := if 65535 < s.length then ([], 3) else (be 2 s.length ++ s, 0)
/-- a text, taken -/
def takeText (s : List UInt8) (a : Int) : List UInt8 × Int × Int :=
  if (takeNum s a 2).2.2 ≠ 0 then ([], 0, (takeNum s a 2).2.2)
  else if (s.length : Int) - (takeNum s a 2).2.1 < (takeNum s a 2).1 then ([], 0, 30)
  else ((s.drop (takeNum s a 2).2.1.toNat).take (takeNum s a 2).1.toNat, (takeNum s a 2).2.1 + (takeNum s a 2).1, 0)
end Go.Proofs.Ytdhnegcblnpmfaa.Pack
namespace Go.Proofs.Ytdhnegcblnpmfaa.Pack
/-- texts one behind the other, each behind its length -/
def flat (l : List (List UInt8)) : List UInt8 := l.flatMap fun s => be 2 s.length ++ s
/-- texts, laid, or refused -/
def texts (l : List (List UInt8)) : List UInt8 × Int :=
  if 65535 < l.length then ([], 3) else if l.any (fun s => decide (65535 < s.length)) then ([], 3) else (be 2 l.length ++ flat l, 0)
theorem flat_snoc (l : List (List UInt8)) (s : List UInt8) : flat (l ++ [s]) = flat l ++ (be 2 s.length ++ s) := by simp [flat]
theorem flat_le (l : List (List UInt8)) (h : l.any (fun s => decide (65535 < s.length)) = false) : (flat l).length ≤ 65537 * l.length := by
  induction l with
  | nil => simp [flat]
  | cons s l ih =>
    simp only [List.any_cons, Bool.or_eq_false_iff, decide_eq_false_iff_not] at h
    have := ih h.2
    simp only [flat, List.flatMap_cons, List.length_append, be_length, List.length_cons] at this ⊢
    omega
/-- texts, taken one by one: what was taken, the place behind, the error -/
def takeFold (s : List UInt8) : Nat → Int → List (List UInt8) → List (List UInt8) × Int × Int
  | 0, toX9, acc => (acc, toX9, 0)
  | n + 1, toX9, acc => if (takeText s toX9).2.2 = 0 then takeFold s n (takeText s toX9).2.1 (acc ++ [(takeText s toX9).1]) else ([], 0, (takeText s toX9).2.2)
/-- texts, taken -/
def takeTexts (s : List UInt8) (a : Int) : List (List UInt8) × Int × Int :=
  if (takeNum s a 2).2.2 = 0 then takeFold s (takeNum s a 2).1.toNat (takeNum s a 2).2.1 [] else ([], 0, (takeNum s a 2).2.2)
end Go.Proofs.Ytdhnegcblnpmfaa.Pack

namespace Go.Proofs.Ytdhnegcblnpmfaa.Pack

theorem isW_bd {w : Int} (h : isW w = true) : 1 ≤ w ∧ w ≤ 8 := by rcases isW_of h with rfl | rfl | rfl | rfl <;> omega

theorem takeNum_at (p q : List UInt8) (n : Nat) (w : Int) (hw : isW w = true) (h : n < 256 ^ w.toNat) (hn : n ≤ 9223372036854775807) :
    takeNum (p ++ (be w.toNat n ++ q)) (p.length : Int) w = ((n : Int), (p.length : Int) + w, 0) := by
  have hb := isW_bd hw
  have hlen : (p ++ (be w.toNat n ++ q)).length = p.length + (w.toNat + q.length) := by simp [be_length]
  have htk : ((p ++ (be w.toNat n ++ q)).drop (p.length : Int).toNat).take w.toNat = be w.toNat n := by
    rw [Int.toNat_natCast, List.drop_left]
    exact List.take_left' (be_length _ _)
  unfold takeNum
  rw [htk, num_be _ _ h, hlen, if_neg (by rw [hw]; simp; omega), if_neg (by omega), if_neg (by omega)]

theorem takeText_at (p q s : List UInt8) (h : s.length ≤ 65535) : takeText (p ++ (be 2 s.length ++ s ++ q)) (p.length : Int) = (s, (p.length : Int) + (be 2 s.length ++ s).length, 0) := by
  have hT := takeNum_at p (s ++ q) s.length 2 (by decide) (by show s.length < 256 ^ 2; omega) (by omega)
  rw [show (2 : Int).toNat = 2 from rfl, ← List.append_assoc (be 2 s.length)] at hT
  unfold takeText
  rw [hT]
  simp only
  have hlen : (p ++ (be 2 s.length ++ s ++ q)).length = p.length + (2 + s.length + q.length) := by simp [be_length]; omega
  rw [if_neg (by simp), hlen, if_neg (by omega)]
  have hd : (p ++ (be 2 s.length ++ s ++ q)).drop ((p.length : Int) + 2).toNat = s ++ q := by
    rw [show ((p.length : Int) + 2).toNat = p.length + 2 by omega, List.append_assoc (be 2 s.length), ← List.append_assoc p]
    exact List.drop_left' (by simp [be_length])
  rw [hd, Int.toNat_natCast, List.take_left]
  simp [be_length]
  omega

theorem takeFold_at (l : List (List UInt8)) (hl : ∀ s ∈ l, s.length ≤ 65535) (p q : List UInt8) (acc : List (List UInt8)) :
    takeFold (p ++ (flat l ++ q)) l.length (p.length : Int) acc = (acc ++ l, (p.length : Int) + (flat l).length, 0) := by
  induction l generalizing p acc with
  | nil => simp [takeFold, flat]
  | cons s l ih =>
    have hs := hl s (by simp)
    have hf : flat (s :: l) = be 2 s.length ++ s ++ flat l := by simp [flat]
    have e1 : p ++ (flat (s :: l) ++ q) = p ++ (be 2 s.length ++ s ++ (flat l ++ q)) := by rw [hf]; simp
    have hT := takeText_at p (flat l ++ q) s hs
    rw [List.length_cons, takeFold, e1, hT]
    simp only
    rw [if_pos trivial]
    have e2 : p ++ (be 2 s.length ++ s ++ (flat l ++ q)) = (p ++ (be 2 s.length ++ s)) ++ (flat l ++ q) := by simp
    have e3 : (p.length : Int) + (be 2 s.length ++ s).length = ((p ++ (be 2 s.length ++ s)).length : Int) := by simp only [List.length_append]; omega
    rw [e2, e3, ih (fun x hx => hl x (by simp [hx])) (p ++ (be 2 s.length ++ s)) (acc ++ [s])]
    rw [hf]
    simp
    omega

theorem texts_back (l : List (List UInt8)) (hn : l.length ≤ 65535) (hl : ∀ s ∈ l, s.length ≤ 65535) : texts l = (be 2 l.length ++ flat l, 0) := by
  unfold texts
  rw [if_neg (by omega), if_neg]
  rw [List.any_eq_true]
  rintro ⟨s, hs, h⟩
  have := hl s hs
  simp at h
  omega
theorem takeTexts_at (l : List (List UInt8)) (hn : l.length ≤ 65535) (hl : ∀ s ∈ l, s.length ≤ 65535) (p q : List UInt8) :
    takeTexts (p ++ ((be 2 l.length ++ flat l) ++ q)) (p.length : Int) = (l, (p.length : Int) + (be 2 l.length ++ flat l).length, 0) := by
  have hT := takeNum_at p (flat l ++ q) l.length 2 (by decide) (by show l.length < 256 ^ 2; omega) (by omega)
  rw [show (2 : Int).toNat = 2 from rfl, ← List.append_assoc (be 2 l.length)] at hT
  unfold takeTexts
  rw [hT]
  simp only
  rw [if_pos trivial, Int.toNat_natCast]
  have e1 : p ++ (be 2 l.length ++ flat l ++ q) = (p ++ be 2 l.length) ++ (flat l ++ q) := by simp
  have e2 : (p.length : Int) + 2 = ((p ++ be 2 l.length).length : Int) := by simp [be_length]
  rw [e1, e2, takeFold_at l hl]
  simp [be_length]
  omega

theorem takeNum_ok {s : List UInt8} {a w n toX9 : Int} (h : takeNum s a w = (n, toX9, 0)) :
    0 ≤ a ∧ isW w = true ∧ toX9 = a + w ∧ toX9 ≤ s.length ∧ n = (num ((s.drop a.toNat).take w.toNat) : Nat) ∧ n ≤ 9223372036854775807 ∧ ((s.drop a.toNat).take w.toNat).length = w.toNat := by
  unfold takeNum at h
  split at h
  · simp at h
  · rename_i h1
    have hw : isW w = true := by
      cases hk : isW w
      · exact absurd (.inr (.inr hk)) h1
      · rfl
    have hb := isW_bd hw
    split at h
    · simp at h
    · split at h
      · simp at h
      · simp only [Prod.mk.injEq, and_true] at h
        refine ⟨by omega, hw, h.2.symm, by omega, h.1.symm, by omega, ?_⟩
        rw [List.length_take, List.length_drop]
        omega

theorem number_of {s : List UInt8} {a w n toX9 : Int} (h : takeNum s a w = (n, toX9, 0)) : number n w = ((s.drop a.toNat).take (toX9.toNat - a.toNat), 0) := by
  obtain ⟨ha, hw, rfl, _, rfl, _, hl⟩ := takeNum_ok h
  have hb := isW_bd hw
  have hlt := num_lt ((s.drop a.toNat).take w.toNat)
  rw [hl] at hlt
  have hbn := be_num ((s.drop a.toNat).take w.toNat)
  rw [hl] at hbn
  have hf : fitB ((num ((s.drop a.toNat).take w.toNat) : Nat) : Int) w = true := by
    simp only [fitB, hw, Bool.true_and, decide_eq_true_eq]
    exact ⟨by omega, by have := Int.ofNat_lt.2 hlt; rwa [Int.natCast_pow] at this⟩
  rw [number, if_pos hf, Int.toNat_natCast, hbn, show (a + w).toNat - a.toNat = w.toNat by omega]

theorem takeText_ok {s t : List UInt8} {a toX9 : Int} (h : takeText s a = (t, toX9, 0)) :
    0 ≤ a ∧ t.length ≤ 65535 ∧ toX9 = a + 2 + t.length ∧ toX9 ≤ s.length ∧ s.drop a.toNat = be 2 t.length ++ t ++ s.drop toX9.toNat := by
  obtain ⟨n, u, e, hT⟩ : ∃ n u e, takeNum s a 2 = (n, u, e) := ⟨_, _, _, rfl⟩
  unfold takeText at h
  rw [hT] at h
  simp only at h
  split at h
  · rename_i he
    simp at h
    exact absurd h.2.2 he
  · rename_i he
    obtain rfl : e = 0 := by omega
    split at h
    · simp at h
    · rename_i hsh
      obtain ⟨ha, _, rfl, hle, rfl, _, hl⟩ := takeNum_ok hT
      simp only [Prod.mk.injEq, and_true] at h
      obtain ⟨rfl, rfl⟩ := h
      rw [show (2 : Int).toNat = 2 from rfl] at *
      have hlt := num_lt ((s.drop a.toNat).take 2)
      have hbn := be_num ((s.drop a.toNat).take 2)
      rw [hl] at hlt hbn
      generalize hN : num ((s.drop a.toNat).take 2) = N at *
      rw [Int.toNat_natCast]
      have htl : ((s.drop (a + 2).toNat).take N).length = N := by rw [List.length_take, List.length_drop]; omega
      refine ⟨ha, by rw [htl]; omega, by rw [htl], by omega, ?_⟩
      rw [htl, hbn]
      have e1 : s.drop (a + 2 + (N : Int)).toNat = (s.drop (a + 2).toNat).drop N := by rw [List.drop_drop]; congr 1; omega
      have e2 : s.drop (a + 2).toNat = (s.drop a.toNat).drop 2 := by rw [List.drop_drop]; congr 1; omega
      rw [e1, List.append_assoc, List.take_append_drop, e2, List.take_append_drop]

theorem takeFold_ok {s : List UInt8} {n : Nat} {toX9 to' : Int} {acc l : List (List UInt8)} (h : takeFold s n toX9 acc = (l, to', 0)) (h0 : 0 ≤ toX9) (h1 : toX9 ≤ s.length) :
    ∃ m, l = acc ++ m ∧ m.length = n ∧ (∀ x ∈ m, x.length ≤ 65535) ∧ to' = toX9 + (flat m).length ∧ to' ≤ s.length ∧ s.drop toX9.toNat = flat m ++ s.drop to'.toNat := by
  induction n generalizing toX9 acc with
  | zero =>
    simp only [takeFold, Prod.mk.injEq, and_true] at h
    obtain ⟨rfl, rfl⟩ := h
    exact ⟨[], by simp, rfl, by simp, by simp [flat], h1, by simp [flat]⟩
  | succ n ih =>
    rw [takeFold] at h
    split at h
    · rename_i he
      obtain ⟨t, u, e, hT⟩ : ∃ t u e, takeText s toX9 = (t, u, e) := ⟨_, _, _, rfl⟩
      rw [hT] at h he
      simp only at h he
      subst he
      obtain ⟨_, ht, rfl, hle, hd⟩ := takeText_ok hT
      obtain ⟨m, rfl, hm, hx, rfl, hle', hd'⟩ := ih h (by omega) hle
      refine ⟨t :: m, by simp, by simp [hm], ?_, ?_, hle', ?_⟩
      · intro x hx'
        rcases List.mem_cons.1 hx' with rfl | hx'
        · exact ht
        · exact hx x hx'
      · simp [flat, be_length]; omega
      · rw [hd, hd']
        simp [flat]
    · rename_i he
      simp only [Prod.mk.injEq] at h
      exact absurd h.2.2 he

theorem takeTexts_ok {s : List UInt8} {a toX9 : Int} {l : List (List UInt8)} (h : takeTexts s a = (l, toX9, 0)) :
    0 ≤ a ∧ a ≤ toX9 ∧ toX9 ≤ s.length ∧ l.length ≤ 65535 ∧ (∀ x ∈ l, x.length ≤ 65535) ∧ texts l = ((s.drop a.toNat).take (toX9.toNat - a.toNat), 0) := by
  obtain ⟨n, u, e, hT⟩ : ∃ n u e, takeNum s a 2 = (n, u, e) := ⟨_, _, _, rfl⟩
  unfold takeTexts at h
  rw [hT] at h
  simp only at h
  split at h
  · rename_i he
    subst he
    obtain ⟨ha, _, rfl, hle, rfl, _, hl⟩ := takeNum_ok hT
    rw [show (2 : Int).toNat = 2 from rfl] at *
    have hlt := num_lt ((s.drop a.toNat).take 2)
    have hbn := be_num ((s.drop a.toNat).take 2)
    rw [hl] at hlt hbn
    rw [Int.toNat_natCast] at h
    obtain ⟨m, hlm, hm, hx, rfl, hle', hd⟩ := takeFold_ok h (by omega) hle
    rw [List.nil_append] at hlm
    subst hlm
    rw [← hm] at hbn hlt
    refine ⟨ha, by omega, hle', by omega, hx, ?_⟩
    rw [texts_back _ (by omega) hx, hbn]
    have e2 : s.drop (a + 2).toNat = (s.drop a.toNat).drop 2 := by rw [List.drop_drop]; congr 1; omega
    congr 1
    have e3 : s.drop a.toNat = (s.drop a.toNat).take 2 ++ (flat l ++ s.drop (a + 2 + (flat l).length).toNat) := by rw [← hd, e2, List.take_append_drop]
    conv => rhs; rw [e3, ← List.append_assoc]
    rw [List.take_left']
    rw [List.length_append, hl]
    omega
  · rename_i he
    simp only [Prod.mk.injEq] at h
    exact absurd h.2.2 he
end Go.Proofs.Ytdhnegcblnpmfaa.Pack

namespace Go.Proofs.Ytdhnegcblnpmfaa.Sums

/-- the bytes added up -/
def S : List UInt8 → Int
  | [] => 0
  | c :: l => (c.toNat : Int) + S l
/-- the bytes added up, each as often as the bytes from it on -/
def T : List UInt8 → Int
  | [] => 0
  | c :: l => ((l.length : Int) + 1) * (c.toNat : Int) + T l

def AA (a : Int) (l : List UInt8) : Int := a + S l
def BB (a b : Int) (l : List UInt8) : Int := b + (l.length : Int) * a + T l

theorem S_append (l m : List UInt8) : S (l ++ m) = S l + S m := by
  induction l with
  | nil => simp [S]
  | cons c l ih => simp only [List.cons_append, S, ih]; omega
theorem T_append (l m : List UInt8) : T (l ++ m) = T l + (m.length : Int) * S l + T m := by
  induction l with
  | nil => simp [S, T]
  | cons c l ih =>
    simp only [List.cons_append, S, T, ih, List.length_append]
    have e : (((l.length + m.length : Nat) : Int) + 1) * (c.toNat : Int) = ((l.length : Int) + 1) * (c.toNat : Int) + (m.length : Int) * (c.toNat : Int) := by
      rw [← Int.add_mul]; congr 1; omega
    rw [e, Int.mul_add]
    omega
theorem S_nonneg (l : List UInt8) : 0 ≤ S l := by
  induction l with
  | nil => simp [S]
  | cons c l ih => simp only [S]; omega
theorem T_nonneg (l : List UInt8) : 0 ≤ T l := by
  induction l with
  | nil => simp [T]
  | cons c l ih =>
    simp only [T]
    have : 0 ≤ ((l.length : Int) + 1) * (c.toNat : Int) := Int.mul_nonneg (by omega) (by omega)
    omega

theorem AA_nil (a : Int) : AA a [] = a := by simp [AA, S]
theorem BB_nil (a b : Int) : BB a b [] = b := by simp [BB, T]
theorem AA_snoc (a : Int) (l : List UInt8) (c : UInt8) : AA a (l ++ [c]) = AA a l + (c.toNat : Int) := by
  simp only [AA, S_append, S]; omega
theorem BB_snoc (a b : Int) (l : List UInt8) (c : UInt8) : BB a b (l ++ [c]) = BB a b l + (AA a l + (c.toNat : Int)) := by
  simp only [BB, AA, T_append, T, List.length_append, List.length_cons, List.length_nil]
  have e : ((l.length + (0 + 1) : Nat) : Int) * a = (l.length : Int) * a + a := by
    rw [show ((l.length + (0 + 1) : Nat) : Int) = (l.length : Int) + 1 by omega, Int.add_mul]; omega
  rw [e]
  simp
  omega
theorem AA_append (a : Int) (l m : List UInt8) : AA a (l ++ m) = AA (AA a l) m := by
  simp only [AA, S_append]; omega
theorem BB_append (a b : Int) (l m : List UInt8) : BB a b (l ++ m) = BB (AA a l) (BB a b l) m := by
  simp only [BB, AA, T_append, List.length_append]
  have e : ((l.length + m.length : Nat) : Int) * a = (l.length : Int) * a + (m.length : Int) * a := by
    rw [show ((l.length + m.length : Nat) : Int) = (l.length : Int) + (m.length : Int) by omega, Int.add_mul]
  rw [e, Int.mul_add]
  omega

theorem AA_le (a : Int) (l : List UInt8) : a ≤ AA a l ∧ AA a l ≤ a + 255 * (l.length : Int) := by
  unfold AA
  have := S_nonneg l
  refine ⟨by omega, ?_⟩
  induction l with
  | nil => simp [S]
  | cons c l ih =>
    have hc : c.toNat < 256 := c.toNat_lt
    have := ih (S_nonneg l)
    simp only [S, List.length_cons]
    omega
theorem T_le (l : List UInt8) : 2 * T l ≤ 255 * ((l.length : Int) * ((l.length : Int) + 1)) := by
  induction l with
  | nil => simp [T]
  | cons c l ih =>
    have hc : c.toNat < 256 := c.toNat_lt
    simp only [T, List.length_cons]
    have h1 : ((l.length : Int) + 1) * (c.toNat : Int) ≤ ((l.length : Int) + 1) * 255 := Int.mul_le_mul_of_nonneg_left (by omega) (by omega)
    have e : ((l.length + 1 : Nat) : Int) * (((l.length + 1 : Nat) : Int) + 1) = (l.length : Int) * ((l.length : Int) + 1) + 2 * ((l.length : Int) + 1) := by
      rw [show ((l.length + 1 : Nat) : Int) = (l.length : Int) + 1 by omega, show (l.length : Int) + 1 + 1 = (l.length : Int) + 2 by omega, Int.mul_comm, Int.add_mul, Int.mul_comm (l.length : Int)]
    rw [e]
    omega
theorem BB_le (a b : Int) (l : List UInt8) (h0 : 0 ≤ a) (h1 : a < 65521) (hb : 0 ≤ b) (hb1 : b < 65521) (hl : l.length ≤ 5000) : 0 ≤ BB a b l ∧ BB a b l ≤ 3515803020 := by
  unfold BB
  have hT := T_le l
  have hT0 := T_nonneg l
  have h2 : (l.length : Int) * a ≤ 5000 * 65520 := by
    have := Int.mul_le_mul (show (l.length : Int) ≤ 5000 by omega) (show a ≤ 65520 by omega) h0 (by omega)
    omega
  have h2' : 0 ≤ (l.length : Int) * a := Int.mul_nonneg (by omega) h0
  have h3 : (l.length : Int) * ((l.length : Int) + 1) ≤ 5000 * 5001 := Int.mul_le_mul (by omega) (by omega) (by omega) (by omega)
  omega

/-- a number and its rest by 65521, times another one -/
theorem mul_mod (n a : Int) : n * (a % 65521) = n * a - 65521 * (n * (a / 65521)) := by
  have h : a % 65521 = a - 65521 * (a / 65521) := by omega
  rw [h, Int.mul_sub]
  have : n * (65521 * (a / 65521)) = 65521 * (n * (a / 65521)) := by
    rw [← Int.mul_assoc, Int.mul_comm n 65521, Int.mul_assoc]
  rw [this]
theorem AA_mod (a : Int) (l : List UInt8) : AA (a % 65521) l % 65521 = AA a l % 65521 := by unfold AA; omega
theorem BB_mod (a b : Int) (l : List UInt8) : BB (a % 65521) (b % 65521) l % 65521 = BB a b l % 65521 := by
  unfold BB
  have := mul_mod (l.length : Int) a
  omega

/-- a sum of its parts -/
def pk (a b : Int) : Int := (b % 65521) * 65536 + a % 65521
def lo (s : Int) : Int := s % 65536
def hi (s : Int) : Int := s / 65536
theorem pk_bd (a b : Int) : 0 ≤ pk a b ∧ pk a b < 4294967296 := by unfold pk; omega
theorem lo_pk (a b : Int) : lo (pk a b) = a % 65521 := by unfold pk lo; omega
theorem hi_pk (a b : Int) : hi (pk a b) = b % 65521 := by unfold pk hi; omega
theorem pk_congr {a b c d : Int} (h : a % 65521 = c % 65521) (k : b % 65521 = d % 65521) : pk a b = pk c d := by unfold pk; rw [h, k]

/-- a sum goes on with a text -/
def more (s : Int) (l : List UInt8) : Int := pk (AA (lo s) l) (BB (lo s) (hi s) l)
theorem more_bd (s : Int) (l : List UInt8) : 0 ≤ more s l ∧ more s l < 4294967296 := pk_bd _ _
theorem more_append (s : Int) (l m : List UInt8) : more s (l ++ m) = more (more s l) m := by
  unfold more
  rw [lo_pk, hi_pk, AA_append, BB_append]
  exact pk_congr (AA_mod _ _).symm (BB_mod _ _ _).symm
def sum (s : Int) : List (List UInt8) → Int
  | [] => s
  | l :: ls => sum (more s l) ls
theorem sum_snoc (s : Int) (ls : List (List UInt8)) (l : List UInt8) : sum s (ls ++ [l]) = more (sum s ls) l := by
  induction ls generalizing s with
  | nil => rfl
  | cons x ls ih => exact ih _
theorem sum_bd (s : Int) (ls : List (List UInt8)) (h : 0 ≤ s ∧ s < 4294967296) : 0 ≤ sum s ls ∧ sum s ls < 4294967296 := by
  induction ls generalizing s with
  | nil => exact h
  | cons x ls ih => exact ih _ (more_bd _ _)
/-- two sums are put together -/
def join (x y n : Int) : Int := pk (lo x + lo y + 65520) (hi x + hi y + (max n 0) * (lo x + 65520))
theorem join_bd (x y n : Int) : 0 ≤ join x y n ∧ join x y n < 4294967296 := pk_bd _ _

theorem parts (l m : List UInt8) : join (more 1 l) (more 1 m) (m.length : Int) = more 1 (l ++ m) := by
  unfold join more
  simp only [lo_pk, hi_pk]
  rw [show lo 1 = 1 from rfl, show hi 1 = 0 from rfl, AA_append, BB_append]
  rw [show max (m.length : Int) 0 = (m.length : Int) by omega]
  apply pk_congr
  · unfold AA; omega
  · have h := mul_mod (m.length : Int) (AA 1 l)
    rw [Int.mul_add]
    generalize hz : BB 1 0 l = z
    unfold BB
    simp only [Int.mul_one]
    rw [h]
    omega

/-- one byte that is another one -/
theorem turned (l m : List UInt8) (c d : UInt8) (h : c ≠ d) : more 1 (l ++ c :: m) ≠ more 1 (l ++ d :: m) := by
  intro e
  have h1 : lo (more 1 (l ++ c :: m)) = lo (more 1 (l ++ d :: m)) := by rw [e]
  simp only [more, lo_pk, AA, S_append, S] at h1
  have hc := c.toNat_lt
  have hd := d.toNat_lt
  have hne : c.toNat ≠ d.toNat := fun e => h (UInt8.toNat_inj.1 e)
  omega
/-- two unlike neighbours that are changed about -/
theorem swapped (l m : List UInt8) (c d : UInt8) (h : c ≠ d) : more 1 (l ++ c :: d :: m) ≠ more 1 (l ++ d :: c :: m) := by
  intro e
  have h1 : hi (more 1 (l ++ c :: d :: m)) = hi (more 1 (l ++ d :: c :: m)) := by rw [e]
  simp only [more, hi_pk, BB, T_append, T, List.length_append, List.length_cons] at h1
  have hc := c.toNat_lt
  have hd := d.toNat_lt
  have hne : c.toNat ≠ d.toNat := fun e => h (UInt8.toNat_inj.1 e)
  generalize ((l.length + (m.length + 1 + 1) : Nat) : Int) * lo 1 = u at h1
  generalize ((m.length + 1 + 1 : Nat) : Int) * S l = v at h1
  rw [show ((m.length + 1 : Nat) : Int) + 1 = ((m.length : Int) + 1) + 1 by omega, Int.add_mul ((m.length : Int) + 1) 1 (c.toNat : Int), Int.add_mul ((m.length : Int) + 1) 1 (d.toNat : Int)] at h1
  generalize ((m.length : Int) + 1) * (c.toNat : Int) = x at h1
  generalize ((m.length : Int) + 1) * (d.toNat : Int) = y at h1
  omega
end Go.Proofs.Ytdhnegcblnpmfaa.Sums

namespace Go.Proofs.Ytdhnegcblnpmfaa.Frm
open Pack
set_option linter.unusedVariables false

/-- numbers of one width, one behind the other, or none -/
def nums (w : Int) (l : List Int) : List UInt8 × Bool := if l.all (fun n => fitB n w) then (l.flatMap (fun n => be w.toNat n.toNat), true) else ([], false)
theorem nums_yes {w : Int} {l : List Int} (h : l.all (fun n => fitB n w) = true) : nums w l = (l.flatMap (fun n => be w.toNat n.toNat), true) := by rw [nums, if_pos h]
theorem nums_no {w : Int} {l : List Int} (h : l.all (fun n => fitB n w) = false) : nums w l = ([], false) := by rw [nums, if_neg (by simp [h])]
def four (n : Int) : List UInt8 := be 4 n.toNat
theorem four_len (n : Int) : (four n).length = 4 := be_length _ _
def sumL (s : List UInt8) : List UInt8 := be 4 (Sums.more 1 s).toNat
theorem sumL_len (s : List UInt8) : (sumL s).length = 4 := be_length _ _
def hd (life seq : Int) (body : List UInt8) : List UInt8 := 77 :: (four body.length ++ four life ++ four seq ++ body)
theorem hd_len (life seq : Int) (body : List UInt8) : (hd life seq body).length = 13 + body.length := by simp [hd, four_len]; omega
def put (life seq : Int) (body : List UInt8) : List UInt8 × Int :=
  if (fitB life 4 && fitB seq 4) = false then ([], 2) else if 200000 < body.length then ([], 3) else (hd life seq body ++ sumL (hd life seq body), 0)
theorem put_arg {life seq : Int} {body : List UInt8} (h : (fitB life 4 && fitB seq 4) = false) : put life seq body = ([], 2) := by rw [put, if_pos h]
theorem put_big {life seq : Int} {body : List UInt8} (h : (fitB life 4 && fitB seq 4) = true) (h2 : 200000 < body.length) : put life seq body = ([], 3) := by rw [put, if_neg (by simp [h]), if_pos h2]
theorem put_ok {life seq : Int} {body : List UInt8} (h : (fitB life 4 && fitB seq 4) = true) (h2 : ¬ 200000 < body.length) : put life seq body = (hd life seq body ++ sumL (hd life seq body), 0) := by rw [put, if_neg (by simp [h]), if_neg h2]
theorem fit4 {n : Int} : fitB n 4 = true ↔ 0 ≤ n ∧ n < 4294967296 := by
  simp [fitB, isW]
theorem fit4_no {n : Int} : fitB n 4 = false ↔ n < 0 ∨ 4294967296 ≤ n := by
  rw [← Bool.not_eq_true, fit4]
  omega
/-- the number of width 4 at a place -/
def n4 (t : List UInt8) (i : Nat) : Nat := num ((t.drop i).take 4)
theorem n4_lt (t : List UInt8) (i : Nat) : n4 t i < 4294967296 := by
  have h := num_lt ((t.drop i).take 4)
  have h2 : ((t.drop i).take 4).length ≤ 4 := List.length_take_le _ _
  have h3 : 256 ^ ((t.drop i).take 4).length ≤ 256 ^ 4 := Nat.pow_le_pow_right (by omega) h2
  unfold n4
  omega
theorem take4 {s : List UInt8} {a : Int} {k : Nat} (ha : a = (k : Int)) (h : k + 4 ≤ s.length) : takeNum s a 4 = (((n4 s k : Nat) : Int), a + 4, 0) := by
  subst ha
  have hn := n4_lt s k
  unfold n4 at hn ⊢
  unfold takeNum
  rw [if_neg (by simp [isW]; omega), if_neg (by omega)]
  simp only [Int.toNat_natCast, show (4 : Int).toNat = 4 from rfl]
  rw [if_neg (by omega)]
theorem n4_drop (s : List UInt8) (a i : Nat) : n4 (s.drop a) i = n4 s (a + i) := by rw [n4, n4, List.drop_drop]
abbrev Got := Int × Int × List UInt8 × Int × Int
def bad (e : Int) : Got := (0, 0, [], 0, e)
def getT (t : List UInt8) (a : Int) : Got :=
  if t.length < 13 then bad 30 else if t[0]? ≠ some 77 then bad 241 else if 200000 < n4 t 1 then bad 3 else if t.length < 17 + n4 t 1 then bad 30
  else if Sums.more 1 (t.take (13 + n4 t 1)) ≠ ((n4 t (13 + n4 t 1) : Nat) : Int) then bad 240 else (((n4 t 5 : Nat) : Int), ((n4 t 9 : Nat) : Int), (t.drop 13).take (n4 t 1), a + ((17 + n4 t 1 : Nat) : Int), 0)
def get (s : List UInt8) (a : Int) : Got := if a < 0 ∨ (s.length : Int) < a then bad 2 else getT (s.drop a.toNat) a
theorem get_arg {s : List UInt8} {a : Int} (h : a < 0 ∨ (s.length : Int) < a) : get s a = bad 2 := by rw [get, if_pos h]
theorem get_in {s : List UInt8} {a : Nat} (h : a ≤ s.length) : get s (a : Int) = getT (s.drop a) (a : Int) := by rw [get, if_neg (by omega), Int.toNat_natCast]
section
variable {t : List UInt8} {a : Int}
theorem getT_short (h : t.length < 13) : getT t a = bad 30 := by rw [getT, if_pos h]
theorem getT_sign (h : 13 ≤ t.length) (h1 : t[0]? ≠ some 77) : getT t a = bad 241 := by rw [getT, if_neg (by omega), if_pos h1]
theorem getT_big (h : 13 ≤ t.length) (h1 : t[0]? = some 77) (h2 : 200000 < n4 t 1) : getT t a = bad 3 := by rw [getT, if_neg (by omega), if_neg (by simp [h1]), if_pos h2]
theorem getT_short2 (h : 13 ≤ t.length) (h1 : t[0]? = some 77) (h2 : n4 t 1 ≤ 200000) (h3 : t.length < 17 + n4 t 1) : getT t a = bad 30 := by rw [getT, if_neg (by omega), if_neg (by simp [h1]), if_neg (by omega), if_pos h3]
theorem getT_sum (h : 13 ≤ t.length) (h1 : t[0]? = some 77) (h2 : n4 t 1 ≤ 200000) (h3 : 17 + n4 t 1 ≤ t.length) (h4 : Sums.more 1 (t.take (13 + n4 t 1)) ≠ ((n4 t (13 + n4 t 1) : Nat) : Int)) : getT t a = bad 240 := by
  rw [getT, if_neg (by omega), if_neg (by simp [h1]), if_neg (by omega), if_neg (by omega), if_pos h4]
theorem getT_ok (h : 13 ≤ t.length) (h1 : t[0]? = some 77) (h2 : n4 t 1 ≤ 200000) (h3 : 17 + n4 t 1 ≤ t.length) (h4 : Sums.more 1 (t.take (13 + n4 t 1)) = ((n4 t (13 + n4 t 1) : Nat) : Int)) : getT t a = (((n4 t 5 : Nat) : Int), ((n4 t 9 : Nat) : Int), (t.drop 13).take (n4 t 1), a + ((17 + n4 t 1 : Nat) : Int), 0) := by
  rw [getT, if_neg (by omega), if_neg (by simp [h1]), if_neg (by omega), if_neg (by omega), if_neg (by simp [h4])]
theorem getT_err (h : (getT t a).2.2.2.2 = 0) : 13 ≤ t.length ∧ t[0]? = some 77 ∧ n4 t 1 ≤ 200000 ∧ 17 + n4 t 1 ≤ t.length ∧ Sums.more 1 (t.take (13 + n4 t 1)) = ((n4 t (13 + n4 t 1) : Nat) : Int) := by
  unfold getT at h
  split at h
  · cases h
  · split at h
    · cases h
    · split at h
      · cases h
      · split at h
        · cases h
        · split at h
          · cases h
          · next g1 g2 g3 g4 g5 => exact ⟨by omega, by simpa using g2, by omega, by omega, by simpa using g5⟩
end
/-- a sum's bytes are these four just where it is their number -/
theorem sumL_eq {s q : List UInt8} (hq : q.length = 4) : sumL s = q ↔ Sums.more 1 s = ((num q : Nat) : Int) := by
  have hb := Sums.more_bd 1 s
  constructor
  · intro h
    have h2 := num_be 4 (Sums.more 1 s).toNat (by omega)
    unfold sumL at h
    rw [h] at h2
    omega
  · intro h
    unfold sumL
    rw [h, Int.toNat_natCast, ← hq, be_num]
theorem get_bd (s : List UInt8) (a : Int) : 0 ≤ (get s a).1 ∧ (get s a).1 < 4294967296 ∧ 0 ≤ (get s a).2.1 ∧ (get s a).2.1 < 4294967296 ∧ 0 ≤ (get s a).2.2.2.1 ∧ (get s a).2.2.2.1 ≤ s.length ∧ (get s a).2.2.1.length ≤ 200000 ∧ 0 ≤ (get s a).2.2.2.2 ∧ (get s a).2.2.2.2 ≤ 241 := by
  by_cases h : a < 0 ∨ (s.length : Int) < a
  · rw [get_arg h]
    simp [bad]
  · obtain ⟨k, rfl⟩ : ∃ k : Nat, a = (k : Int) := ⟨a.toNat, by omega⟩
    have hk : k ≤ s.length := by omega
    rw [get_in hk]
    by_cases h0 : (getT (s.drop k) (k : Int)).2.2.2.2 = 0
    · obtain ⟨g1, g2, g3, g4, g5⟩ := getT_err h0
      rw [getT_ok g1 g2 g3 g4 g5]
      have q1 := n4_lt (s.drop k) 5
      have q2 := n4_lt (s.drop k) 9
      have q3 : (s.drop k).length = s.length - k := by simp
      have q4 : (((s.drop k).drop 13).take (n4 (s.drop k) 1)).length ≤ n4 (s.drop k) 1 := List.length_take_le _ _
      refine ⟨?_, ?_, ?_, ?_, ?_, ?_, ?_, ?_, ?_⟩ <;> simp only <;> omega
    · unfold getT at h0 ⊢
      split
      · simp [bad]
      · split
        · simp [bad]
        · split
          · simp [bad]
          · split
            · simp [bad]
            · split
              · simp [bad]
              · next g1 g2 g3 g4 g5 => rw [if_neg g1, if_neg g2, if_neg g3, if_neg g4, if_neg g5] at h0; exact absurd rfl h0
theorem get_zero {s : List UInt8} {a : Int} (h : (get s a).2.2.2.2 ≠ 0) : get s a = bad (get s a).2.2.2.2 := by
  by_cases h1 : a < 0 ∨ (s.length : Int) < a
  · rw [get_arg h1]; rfl
  · rw [get, if_neg h1] at h ⊢
    unfold getT at h ⊢
    split
    · rfl
    · split
      · rfl
      · split
        · rfl
        · split
          · rfl
          · split
            · rfl
            · next g1 g2 g3 g4 g5 => rw [if_neg g1, if_neg g2, if_neg g3, if_neg g4, if_neg g5] at h; exact absurd rfl h
/-- what is read goes on by 17 bytes at least -/
theorem get_on {s : List UInt8} {a : Nat} (h : (get s (a : Int)).2.2.2.2 = 0) : (a : Int) + 17 ≤ (get s (a : Int)).2.2.2.1 ∧ (get s (a : Int)).2.2.2.1 ≤ s.length := by
  by_cases ha : a ≤ s.length
  · rw [get_in ha] at h ⊢
    obtain ⟨g1, g2, g3, g4, g5⟩ := getT_err h
    rw [getT_ok g1 g2 g3 g4 g5]
    simp only [List.length_drop] at g4 ⊢
    omega
  · rw [get_arg (by omega)] at h
    cases h
/-- frames, one behind the other: the bodies and the places behind them -/
def frs (s : List UInt8) : Nat → Nat → List (List UInt8 × Int)
  | 0, _ => []
  | f + 1, a => if (get s (a : Int)).2.2.2.2 = 0 then ((get s (a : Int)).2.2.1, (get s (a : Int)).2.2.2.1) :: frs s f (get s (a : Int)).2.2.2.1.toNat else []
def all (s : List UInt8) : List (List UInt8 × Int) := frs s (s.length + 1) 0
def lastTo (l : List (List UInt8 × Int)) : Int := (l.getLast?.map (·.2)).getD 0
theorem lastTo_snoc (l : List (List UInt8 × Int)) (x : List UInt8 × Int) : lastTo (l ++ [x]) = x.2 := by simp [lastTo]
/-- k frames have been read, the next one begins at a -/
structure At (s : List UInt8) (k a : Nat) : Prop where
  le : k ≤ (all s).length
  up : 17 * k ≤ a
  toX9 : a ≤ s.length
  rest : frs s (s.length + 1 - k) a = (all s).drop k
  last : lastTo ((all s).take k) = (a : Int)
theorem at_start (s : List UInt8) : At s 0 0 := ⟨by omega, by omega, by omega, rfl, rfl⟩
theorem at_step {s : List UInt8} {k a : Nat} (h : At s k a) (h0 : (get s (a : Int)).2.2.2.2 = 0) :
    k < (all s).length ∧ (all s)[k]? = some ((get s (a : Int)).2.2.1, (get s (a : Int)).2.2.2.1) ∧ At s (k + 1) (get s (a : Int)).2.2.2.1.toNat := by
  obtain ⟨o1, o2⟩ := get_on h0
  have hk := h.up
  have ht := h.toX9
  have hr := h.rest
  obtain ⟨f, hf⟩ : ∃ f, s.length + 1 - k = f + 1 := ⟨s.length - k, by omega⟩
  rw [hf, frs, if_pos h0] at hr
  have hlt : k < (all s).length := by
    rcases Nat.lt_or_ge k (all s).length with h' | h'
    · exact h'
    · rw [List.drop_eq_nil_of_le h'] at hr; cases hr
  have hg : (all s)[k]? = some ((get s (a : Int)).2.2.1, (get s (a : Int)).2.2.2.1) := by
    rw [List.drop_eq_getElem_cons hlt] at hr
    injection hr with h1 h2
    rw [List.getElem?_eq_getElem hlt, ← h1]
  refine ⟨hlt, hg, ⟨by omega, by omega, by omega, ?_, ?_⟩⟩
  · rw [show s.length + 1 - (k + 1) = f by omega]
    rw [List.drop_eq_getElem_cons hlt] at hr
    injection hr with h1 h2
  · rw [List.take_succ_eq_append_getElem hlt, lastTo_snoc]
    rw [List.getElem?_eq_getElem hlt] at hg
    injection hg with hg
    rw [hg]
    simp only
    omega
theorem at_end {s : List UInt8} {k a : Nat} (h : At s k a) (h0 : (get s (a : Int)).2.2.2.2 ≠ 0) : k = (all s).length ∧ lastTo (all s) = (a : Int) := by
  have hr := h.rest
  have hk := h.up
  have ht := h.toX9
  have hle := h.le
  obtain ⟨f, hf⟩ : ∃ f, s.length + 1 - k = f + 1 := ⟨s.length - k, by omega⟩
  rw [hf, frs, if_neg h0] at hr
  have hlen := congrArg List.length hr
  simp at hlen
  have hke : k = (all s).length := by omega
  refine ⟨hke, ?_⟩
  have := h.last
  rwa [hke, List.take_length] at this
theorem all_few (s : List UInt8) : ∀ k a, At s k a → 17 * k ≤ s.length := fun k a h => by have := h.up; have := h.toX9; omega
theorem frs_len (s : List UInt8) : ∀ f a, a ≤ s.length → 17 * (frs s f a).length ≤ s.length - a := by
  intro f
  induction f with
  | zero => intro a _; simp [frs]
  | succ f ih =>
    intro a ha
    rw [frs]
    split
    · next h =>
      obtain ⟨o1, o2⟩ := get_on h
      have := ih (get s (a : Int)).2.2.2.1.toNat (by omega)
      simp only [List.length_cons]
      omega
    · simp
theorem all_len (s : List UInt8) : 17 * (all s).length ≤ s.length := by have := frs_len s (s.length + 1) 0 (by omega); unfold all; omega
theorem frs_body (s : List UInt8) : ∀ f a, ∀ x ∈ frs s f a, x.1.length ≤ 200000 := by
  intro f
  induction f with
  | zero => intro a x hx; simp [frs] at hx
  | succ f ih =>
    intro a x hx
    rw [frs] at hx
    split at hx
    · rcases List.mem_cons.1 hx with h | h
      · subst h
        exact (get_bd s (a : Int)).2.2.2.2.2.2.1
      · exact ih _ x h
    · simp at hx
theorem all_body (s : List UInt8) : ∀ x ∈ all s, x.1.length ≤ 200000 := frs_body s _ _
end Go.Proofs.Ytdhnegcblnpmfaa.Frm

namespace Go.Proofs.Ytdhnegcblnpmfaa.Jrn
open Pack Frm
set_option linter.unusedVariables false

/-- what a block says -/
structure Bk where
  stamp : Int
  part : Int
  id : Int
  last : Bool
  bytes : List UInt8
def bk0 : Bk := ⟨0, 0, 0, false, []⟩
def numAt (s : List UInt8) (a w : Int) : Int := (takeNum s a w).1
def readOk (s : List UInt8) : Bool := !(numAt s 0 4 == 0) && !(numAt s 252 4 != numAt s 0 4) && !(decide (1 < numAt s 5 1)) && !(decide (240 < numAt s 6 2))
def readV (s : List UInt8) : Bk := ⟨numAt s 0 4, numAt s 4 1, numAt s 8 4, numAt s 5 1 == 1, (s.drop 12).take (numAt s 6 2).toNat⟩
def readB (s : List UInt8) : Option Bk := if s.length = 256 ∧ readOk s = true then some (readV s) else none
theorem readB_len {s : List UInt8} (h : s.length ≠ 256) : readB s = none := by rw [readB, if_neg (by simp [h])]
theorem readB_no {s : List UInt8} (h : readOk s = false) : readB s = none := by rw [readB, if_neg (by simp [h])]
theorem readB_yes {s : List UInt8} (h0 : s.length = 256) (h : readOk s = true) : readB s = some (readV s) := by rw [readB, if_pos ⟨h0, h⟩]
/-- a block's bytes -/
def writeB (b : Bk) : List UInt8 :=
  be 4 b.stamp.toNat ++ (be 1 b.part.toNat ++ (be 1 (if b.last then 1 else 0) ++ (be 2 b.bytes.length ++ (be 4 b.id.toNat ++ (b.bytes ++ (List.replicate (240 - b.bytes.length) 0 ++ be 4 b.stamp.toNat))))))
structure Bk.Fine (b : Bk) : Prop where
  s0 : 0 ≤ b.stamp
  s1 : b.stamp < 4294967296
  p0 : 0 ≤ b.part
  p1 : b.part < 256
  i0 : 0 ≤ b.id
  i1 : b.id < 4294967296
  few : b.bytes.length ≤ 240
theorem writeB_len {b : Bk} (h : b.bytes.length ≤ 240) : (writeB b).length = 256 := by
  simp [writeB, be_length]
  omega
theorem num_at {p q : List UInt8} {w : Int} {n k : Nat} (hw : isW w = true) (hk : p.length = k) (h : n < 256 ^ w.toNat) (hn : n ≤ 9223372036854775807) : numAt (p ++ (be w.toNat n ++ q)) (k : Int) w = n := by
  have := takeNum_at p q n w hw h hn
  rw [hk] at this
  unfold numAt
  rw [this]
/-- a block is read as it was written -/
theorem read_write {b : Bk} (h : b.Fine) (hs : b.stamp ≠ 0) : readB (writeB b) = some b := by
  obtain ⟨s0, s1, p0, p1, i0, i1, few⟩ := h
  have n0 : numAt (writeB b) 0 4 = b.stamp := by
    have := num_at (p := []) (q := be 1 b.part.toNat ++ (be 1 (if b.last then 1 else 0) ++ (be 2 b.bytes.length ++ (be 4 b.id.toNat ++ (b.bytes ++ (List.replicate (240 - b.bytes.length) 0 ++ be 4 b.stamp.toNat)))))) (w := 4) (n := b.stamp.toNat) (k := 0) rfl rfl (by simp; omega) (by omega)
    rw [show ((b.stamp.toNat : Nat) : Int) = b.stamp by omega] at this
    exact this
  have n4 : numAt (writeB b) 4 1 = b.part := by
    have := num_at (p := be 4 b.stamp.toNat) (q := be 1 (if b.last then 1 else 0) ++ (be 2 b.bytes.length ++ (be 4 b.id.toNat ++ (b.bytes ++ (List.replicate (240 - b.bytes.length) 0 ++ be 4 b.stamp.toNat))))) (w := 1) (n := b.part.toNat) (k := 4) rfl (be_length _ _) (by simp; omega) (by omega)
    rw [show ((b.part.toNat : Nat) : Int) = b.part by omega] at this
    exact this
  have n5 : numAt (writeB b) 5 1 = if b.last then 1 else 0 := by
    have := num_at (p := be 4 b.stamp.toNat ++ be 1 b.part.toNat) (q := be 2 b.bytes.length ++ (be 4 b.id.toNat ++ (b.bytes ++ (List.replicate (240 - b.bytes.length) 0 ++ be 4 b.stamp.toNat)))) (w := 1) (n := if b.last then 1 else 0) (k := 5) rfl (by simp [be_length]) (by split <;> simp) (by split <;> omega)
    rw [List.append_assoc] at this
    rw [show writeB b = _ from rfl]
    refine Eq.trans this ?_
    split <;> rfl
  have n6 : numAt (writeB b) 6 2 = b.bytes.length := by
    have := num_at (p := be 4 b.stamp.toNat ++ (be 1 b.part.toNat ++ be 1 (if b.last then 1 else 0))) (q := be 4 b.id.toNat ++ (b.bytes ++ (List.replicate (240 - b.bytes.length) 0 ++ be 4 b.stamp.toNat))) (w := 2) (n := b.bytes.length) (k := 6) rfl (by simp [be_length]) (by simp; omega) (by omega)
    simp only [List.append_assoc] at this
    exact this
  have n8 : numAt (writeB b) 8 4 = b.id := by
    have := num_at (p := be 4 b.stamp.toNat ++ (be 1 b.part.toNat ++ (be 1 (if b.last then 1 else 0) ++ be 2 b.bytes.length))) (q := b.bytes ++ (List.replicate (240 - b.bytes.length) 0 ++ be 4 b.stamp.toNat)) (w := 4) (n := b.id.toNat) (k := 8) rfl (by simp [be_length]) (by simp; omega) (by omega)
    simp only [List.append_assoc] at this
    rw [show ((b.id.toNat : Nat) : Int) = b.id by omega] at this
    exact this
  have n252 : numAt (writeB b) 252 4 = b.stamp := by
    have := num_at (p := be 4 b.stamp.toNat ++ (be 1 b.part.toNat ++ (be 1 (if b.last then 1 else 0) ++ (be 2 b.bytes.length ++ (be 4 b.id.toNat ++ (b.bytes ++ List.replicate (240 - b.bytes.length) 0)))))) (q := []) (w := 4) (n := b.stamp.toNat) (k := 252) rfl (by simp [be_length]; omega) (by simp; omega) (by omega)
    simp only [List.append_assoc, List.append_nil] at this
    rw [show ((b.stamp.toNat : Nat) : Int) = b.stamp by omega] at this
    exact this
  have hb : ((writeB b).drop 12).take b.bytes.length = b.bytes := by
    have e : writeB b = (be 4 b.stamp.toNat ++ (be 1 b.part.toNat ++ (be 1 (if b.last then 1 else 0) ++ (be 2 b.bytes.length ++ be 4 b.id.toNat)))) ++ (b.bytes ++ (List.replicate (240 - b.bytes.length) 0 ++ be 4 b.stamp.toNat)) := by
      simp [writeB]
    rw [e, List.drop_left' (by simp [be_length]), List.take_left' rfl]
  have hok : readOk (writeB b) = true := by
    unfold readOk
    rw [n0, n5, n6, n252]
    cases b.last <;> simp <;> omega
  have hl : ((if b.last then (1 : Int) else 0) == 1) = b.last := by cases b.last <;> rfl
  have hv : readV (writeB b) = b := by
    unfold readV
    rw [n0, n4, n5, n6, n8, Int.toNat_natCast, hb, hl]
  rw [readB_yes (writeB_len few) hok, hv]
def need (body : List UInt8) : Int := ((body.length : Int) + 17 + 240 - 1) / 240
/-- a record: its life, its number, its body, the block behind it -/
structure Rc where
  life : Int
  seq : Int
  body : List UInt8
  behind : Nat
deriving DecidableEq
/-- does a block go on with a record? -/
def goesOn (b : Bk) (part : Nat) (id : Int) : Bool := b.part == (part : Int) && b.id == id && (b.last || b.bytes.length == 240)
/-- the record whose part comes next, the bytes ahead of it being known -/
def takeF (l : List (List UInt8)) (at_ end_ : Nat) : Nat → Nat → Int → List UInt8 → Option Rc
  | 0, _, _, _ => none
  | f + 1, part, id, acc =>
    if 255 ≤ part ∨ end_ ≤ at_ + part then none else
    match readB (l.getD (at_ + part) []) with
    | none => none
    | some b =>
      if goesOn b part (if part = 0 then b.stamp else id) = false then none else
      if b.last then (if (get (acc ++ b.bytes) 0).2.2.2.2 = 0 ∧ (get (acc ++ b.bytes) 0).2.2.2.1 = (acc ++ b.bytes).length then some ⟨(get (acc ++ b.bytes) 0).1, (get (acc ++ b.bytes) 0).2.1, (get (acc ++ b.bytes) 0).2.2.1, at_ + part + 1⟩ else none)
      else takeF l at_ end_ f (part + 1) (if part = 0 then b.stamp else id) (acc ++ b.bytes)
def takeR (l : List (List UInt8)) (at_ end_ : Nat) : Option Rc := takeF l at_ end_ 256 0 0 []
/-- the records from a block on -/
def recsF (l : List (List UInt8)) (end_ : Nat) : Nat → Nat → Nat → Int → List Rc
  | 0, _, _, _ => []
  | f + 1, at_, seq, life =>
    match takeR l at_ end_ with
    | none => []
    | some r => if r.seq = (seq : Int) ∧ r.life = (if seq = 0 then r.life else life) then r :: recsF l end_ f r.behind (seq + 1) (if seq = 0 then r.life else life) else []
def recs (l : List (List UInt8)) (area : Nat) : List Rc := recsF l ((area + 1) * (l.length / 2)) (l.length + 1) (area * (l.length / 2)) 0 0
/-- what is found in an area -/
structure Fd where
  area : Int
  life : Int
  count : Int
  next : Int
  stamp : Int
  image : List UInt8
  events : List (List UInt8)
  stands : Bool
def look (l : List (List UInt8)) (area : Nat) : Fd :=
  match recs l area with
  | [] => ⟨area, 0, 0, 0, 0, [], [], false⟩
  | r :: t => ⟨area, r.life, t.length, (((r :: t).getLast?.map (·.behind)).getD 0 : Nat), 0, r.body, t.map (·.body), true⟩
def stamped (l : List (List UInt8)) : Int := (l.foldl (fun n s => max n (max (numAt s 0 4) (numAt s ((s.length : Int) - 4) 4))) 0) + 1
def counts (l : List (List UInt8)) : Fd :=
  let a := look l 0
  let b := look l 1
  if a.stands = false ∨ (b.stands = true ∧ a.life < b.life) then { b with stamp := stamped l } else { a with stamp := stamped l }
end Go.Proofs.Ytdhnegcblnpmfaa.Jrn

namespace Go.Proofs.Ytdhnegcblnpmfaa.Mem
open Go.RowKit

/-- block g is just these cells, none of them frozen -/
def Blk (w : World) (g : Nat) (t : TypeId) (cs : Array Value) : Prop := w.heap[g]? = some (.cells cs t (0, 0))

section
variable {w w' : World} {g : Nat} {t : TypeId} {cs : Array Value}
theorem Blk.lt (h : Blk w g t cs) : g < w.heap.size := lt_of_block h
theorem Blk.cell (h : Blk w g t cs) (i : Nat) : w.cell? ⟨g, i, none⟩ = cs[i]? := cell_of_row w g i cs t (0, 0) h
theorem Blk.frozen (h : Blk w g t cs) (i : Nat) : w.frozen? ⟨g, i, none⟩ = false := by
  have h' : w.heap[g]? = some (.cells cs t (0, 0)) := h
  simp [World.frozen?, h']
theorem Blk.new (w : World) (t : TypeId) (cs : Array Value) : Blk (w.alloc (.cells cs t)) w.heap.size t cs := by
  exact heap_alloc_new w _
theorem Blk.drew (h : Blk w g t cs) : Blk w.drew g t cs := h
theorem Blk.drewN (h : Blk w g t cs) (n : Nat) : Blk (w.drewN n) g t cs := h
theorem Blk.alloc (h : Blk w g t cs) (o : Obj) : Blk (w.alloc o) g t cs := (Below.heap_alloc w o g h.lt).trans h
theorem Blk.set (h : Blk w g t cs) (i : Nat) (u : Value) : Blk (w.setCell ⟨g, i, none⟩ u) g t (cs.setIfInBounds i u) := by
  unfold Blk at h ⊢
  simp [World.setCell, Array.getElem?_modify, h]
theorem Blk.far (h : Blk w g t cs) {p : Addr} (hp : g ≠ p.block) (u : Value) : Blk (w.setCell p u) g t cs := (Below.heap_setCell w p u g hp).trans h
theorem Blk.below {B : Nat} (h : Blk w g t cs) (hb : Below B w w') (hg : g < B) : Blk w' g t cs := (hb.block g hg).trans h
theorem Blk.grown {row : Option Nat} (h : Blk w g t cs) (hb : w.grownBy w' row) (hg : some g ≠ row) : Blk w' g t cs := (hb.block g h.lt hg).trans h
end

theorem below_drewN {B : Nat} {a w : World} (h : Below B a w) (n : Nat) : Below B a (w.drewN n) := ⟨h.os, h.tape, h.output, h.size, h.block⟩
theorem below_step {a b c : World} (h : Below a.heap.size a b) (k : Below b.heap.size b c) : Below a.heap.size a c := h.trans (k.mono h.size)

theorem ret_int {k : IntKind} {a b : Int} (h : a = b) : Ending.returned (.int k a) = .returned (.int k b) := by rw [h]
theorem ret_bool {a b : Bool} (h : a = b) : Ending.returned (.bool a) = .returned (.bool b) := by rw [h]

theorem take_snoc (s : ByteArray) (k : Nat) (h : k < s.size) : s.data.toList.take (k + 1) = s.data.toList.take k ++ [s[k]] := by
  rw [List.take_succ_eq_append_getElem (by simpa using h)]; rfl

/-- a slice of n elements of one cell each reads as these cells (nil let in) -/
def Row (w : World) (A : Option Addr) (n : Nat) (vs : List Value) : Prop :=
  vs.length = n ∧ (0 < n → ∃ b off, A = some ⟨b, off, none⟩ ∧ b < w.heap.size ∧ ∀ i v, vs[i]? = some v → w.cell? ⟨b, off + i, none⟩ = some v)
section
variable {w w' : World} {A : Option Addr} {n : Nat} {vs : List Value}
theorem Row.nil (w : World) (A : Option Addr) : Row w A 0 [] := ⟨rfl, fun h => absurd h (by omega)⟩
theorem Row.below (h : Row w A n vs) (hb : Below w.heap.size w w') : Row w' A n vs :=
  ⟨h.1, fun hn => by
    obtain ⟨b, off, e, hlt, hc⟩ := h.2 hn
    exact ⟨b, off, e, Nat.lt_of_lt_of_le hlt hb.size, fun i v hv => (hb.cell (p := ⟨b, off + i, none⟩) hlt).trans (hc i v hv)⟩⟩
theorem Row.at_ (h : Row w A n vs) {k : Nat} (hk : k < n) : ∃ b off v, A = some ⟨b, off, none⟩ ∧ b < w.heap.size ∧ vs[k]? = some v ∧ w.cell? ⟨b, off + k, none⟩ = some v := by
  obtain ⟨b, off, e, hlt, hc⟩ := h.2 (by omega)
  have hl : k < vs.length := by rw [h.1]; exact hk
  exact ⟨b, off, vs[k], e, hlt, List.getElem?_eq_getElem hl, hc k _ (List.getElem?_eq_getElem hl)⟩
end
/-- a slice of strings -/
def Strs (w : World) (A : Option Addr) (n : Nat) (l : List ByteArray) : Prop := Row w A n (l.map Value.string)
section
variable {w w' : World} {A : Option Addr} {n : Nat} {l : List ByteArray}
theorem Strs.len (h : Strs w A n l) : l.length = n := by have := h.1; simpa using this
theorem Strs.below (h : Strs w A n l) (hb : Below w.heap.size w w') : Strs w' A n l := Row.below h hb
theorem Strs.at_ (h : Strs w A n l) {k : Nat} (hk : k < n) : ∃ b off s, A = some ⟨b, off, none⟩ ∧ b < w.heap.size ∧ l[k]? = some s ∧ w.cell? ⟨b, off + k, none⟩ = some (.string s) := by
  obtain ⟨b, off, v, e, hlt, hv, hc⟩ := Row.at_ h hk
  rw [List.getElem?_map] at hv
  cases hs : l[k]? with
  | none => rw [hs] at hv; cases hv
  | some s => rw [hs] at hv; injection hv with hv; subst hv; exact ⟨b, off, s, e, hlt, rfl, hc⟩
end
theorem take_snoc_some {α : Type} {l : List α} {k : Nat} {x : α} (h : l[k]? = some x) : l.take (k + 1) = l.take k ++ [x] := by
  obtain ⟨hk, rfl⟩ := List.getElem?_eq_some_iff.1 h
  rw [List.take_succ_eq_append_getElem hk]
theorem mem_of_at {α : Type} {l : List α} {k : Nat} {x : α} (h : l[k]? = some x) : x ∈ l := List.mem_of_getElem? h
end Go.Proofs.Ytdhnegcblnpmfaa.Mem

namespace Go.Proofs.Ytdhnegcblnpmfaa.Mem
open Go.RowKit

/-- from offset 0 on block g holds these bytes, none frozen -/
def Byts (w : World) (g : Nat) (l : List UInt8) : Prop :=
  g < w.heap.size ∧ ∀ i c, l[i]? = some c → w.cell? ⟨g, i, none⟩ = some (.int .u8 (c.toNat : Int)) ∧ w.frozen? ⟨g, i, none⟩ = false

section
variable {w w' : World} {g : Nat} {l : List UInt8}
theorem Byts.drew (h : Byts w g l) : Byts w.drew g l := h
theorem Byts.drewN (h : Byts w g l) (n : Nat) : Byts (w.drewN n) g l := h
theorem Byts.below {B : Nat} (h : Byts w g l) (hb : Below B w w') (hg : g < B) : Byts w' g l :=
  ⟨Nat.lt_of_lt_of_le h.1 hb.size, fun i c hc => ⟨(hb.cell (p := ⟨g, i, none⟩) hg).trans (h.2 i c hc).1, (hb.frozen (p := ⟨g, i, none⟩) hg).trans (h.2 i c hc).2⟩⟩
theorem Byts.alloc (h : Byts w g l) (o : Obj) : Byts (w.alloc o) g l := h.below ((Below.refl w.heap.size w).alloc (Nat.le_refl _) o) h.1
theorem Byts.set (h : Byts w g l) {i : Nat} (hi : i < l.length) (c : UInt8) : Byts (w.setCell ⟨g, i, none⟩ (.int .u8 (c.toNat : Int))) g (l.set i c) := by
  refine ⟨by simpa [World.setCell] using h.1, fun j d hd => ?_⟩
  have hfr : (w.setCell ⟨g, i, none⟩ (.int .u8 (c.toNat : Int))).frozen? ⟨g, j, none⟩ = w.frozen? ⟨g, j, none⟩ := by simp
  by_cases hij : i = j
  · subst hij
    rw [List.getElem?_set_self hi] at hd
    injection hd with hd
    subst hd
    obtain ⟨hc, hf⟩ := h.2 i _ (List.getElem?_eq_getElem hi)
    exact ⟨World.cell?_setCell_same _ _ _ (by rw [hc]), by rw [hfr]; exact hf⟩
  · rw [List.getElem?_set_ne hij] at hd
    obtain ⟨hc, hf⟩ := h.2 j _ hd
    exact ⟨by rw [World.cell?_setCell_other _ _ _ _ (by intro e; injection e with _ e; exact hij e)]; exact hc, by rw [hfr]; exact hf⟩
theorem Byts.back {P : Program} (h : Byts w g l) (src dst e : TypeId) (cap n : Nat) (hn : n = l.length) (hs : P.underlying src = some (.slice e)) (he : P.underlying e = some (.int .u8)) (hd : P.underlying dst = some .string) :
    (convert src dst (.slice (some ⟨g, 0, none⟩) n cap)).run P w = .ok (.string ⟨l.toArray⟩) w := by
  subst hn
  refine run_convert_bytes_back w src dst e _ cap l hs he hd (fun j hj => ?_)
  have : (⟨g, 0, none⟩ : Addr).add j = ⟨g, j, none⟩ := by unfold Addr.add; split <;> simp_all
  rw [this]
  exact (h.2 j _ (List.getElem?_eq_getElem hj)).1
end

theorem to_bytes {P : Program} (src dst e : TypeId) (s : ByteArray) (hs : P.underlying src = some .string) (hd : P.underlying dst = some (.slice e)) (he : P.underlying e = some (.int .u8)) :
    ∃ (cp : World → Nat) (nx : World → World), (∀ W, (convert src dst (.string s)).run P W = .ok (.slice (some ⟨W.heap.size, 0, none⟩) s.size (cp W)) (nx W)) ∧
      ∀ W, Below W.heap.size W (nx W) ∧ s.size ≤ cp W ∧ Byts (nx W) W.heap.size s.data.toList := by
  refine ⟨fun w => grownCap w s.size 0 e, fun w => w.drew.alloc (.cells (bytesRow s (grownCap w s.size 0 e)) e ((bytesRow s (grownCap w s.size 0 e)).size, (bytesRow s (grownCap w s.size 0 e)).size + 1)), fun W => run_bytes_of_string W src dst e s hs hd he, fun W => ?_⟩
  have hge := grownCap_ge W s.size 0 e
  refine ⟨(Below.refl _ _).drew.alloc (Nat.le_refl _) _, hge, by simp, fun i c hc => ?_⟩
  have hi : i < s.size := by
    have := (List.getElem?_eq_some_iff.1 hc).1
    simpa using this
  have hblk : (W.drew.alloc (.cells (bytesRow s (grownCap W s.size 0 e)) e ((bytesRow s (grownCap W s.size 0 e)).size, (bytesRow s (grownCap W s.size 0 e)).size + 1))).heap[W.heap.size]? = some (.cells (bytesRow s (grownCap W s.size 0 e)) e ((bytesRow s (grownCap W s.size 0 e)).size, (bytesRow s (grownCap W s.size 0 e)).size + 1)) := heap_alloc_new W.drew _
  have hcell : (bytesRow s (grownCap W s.size 0 e))[i]? = some (.int .u8 (c.toNat : Int)) := by
    unfold bytesRow
    rw [Array.getElem?_append_left (by simpa using hi), Array.getElem?_map]
    rw [Array.getElem?_toList] at hc
    rw [hc]
    rfl
  have hlt : i < (bytesRow s (grownCap W s.size 0 e)).size := (Array.getElem?_eq_some_iff.1 hcell).1
  refine ⟨(cell_of_row _ _ i _ _ _ hblk).trans hcell, ?_⟩
  show World.frozen? (W.drew.alloc (.cells (bytesRow s (grownCap W s.size 0 e)) e ((bytesRow s (grownCap W s.size 0 e)).size, (bytesRow s (grownCap W s.size 0 e)).size + 1))) ⟨W.heap.size, i, none⟩ = false
  generalize bytesRow s (grownCap W s.size 0 e) = R at hblk hlt ⊢
  unfold World.frozen?
  rw [hblk]
  simp
  omega
end Go.Proofs.Ytdhnegcblnpmfaa.Mem
