/-
  The store as plain data (no program in sight): what each call answers, and what the store is behind it.
-/
namespace Go.Proofs.Ytdhnegcblnpmfaa.Stor

structure Sto where
  bs : List (List UInt8)
  off : Bool
  wr : Int
  left : Int
  keep : Int

/-- a store that a call made: it has a block, each block is 256 bytes long, what is armed may be -/
structure Sto.Ok (s : Sto) : Prop where
  some_ : 1 ≤ s.bs.length
  few : s.bs.length ≤ 400
  whole : ∀ b ∈ s.bs, b.length = 256
  l0 : 0 ≤ s.left
  l1 : s.left ≤ 9223372036854775807
  k0 : 0 ≤ s.keep
  k1 : s.keep ≤ 256
  w0 : 0 ≤ s.wr

def zeros : List UInt8 := List.replicate 256 0
theorem zeros_length : zeros.length = 256 := List.length_replicate
def new (n : Nat) : Sto := ⟨List.replicate n zeros, false, 0, 0, 0⟩
theorem new_ok (n : Nat) (h : 1 ≤ n) (h4 : n ≤ 400) : (new n).Ok :=
  ⟨by simpa [new] using h, by simpa [new] using h4, by intro b hb; rw [new] at hb; rw [List.eq_of_mem_replicate hb]; exact zeros_length, by simp [new], by simp [new], by simp [new], by simp [new], by simp [new]⟩

/-- why a block may not be reached -/
def reach (s : Sto) (i : Int) : Int := if s.off then 330 else if i < 0 ∨ (s.bs.length : Int) ≤ i then 331 else 0
def write (s : Sto) (i : Int) (b : List UInt8) : Sto × Int :=
  if reach s i ≠ 0 then (s, reach s i)
  else if b.length ≠ 256 then (s, 2)
  else if s.left = 1 then (⟨s.bs.set i.toNat (b.take s.keep.toNat ++ (s.bs.getD i.toNat []).drop s.keep.toNat), true, s.wr + 1, 0, s.keep⟩, 330)
  else (⟨s.bs.set i.toNat b, s.off, s.wr + 1, max (s.left - 1) 0, s.keep⟩, 0)
def arm (s : Sto) (after keep : Int) : Sto × Int :=
  if s.off then (s, 330) else if after < 1 ∨ keep < 0 ∨ 256 < keep then (s, 2) else (⟨s.bs, s.off, s.wr, after, keep⟩, 0)
def power (s : Sto) (on : Bool) : Sto := ⟨s.bs, !on, s.wr, 0, s.keep⟩
def readS (s : Sto) (i : Int) : List UInt8 × Int := if reach s i ≠ 0 then ([], reach s i) else (s.bs.getD i.toNat [], 0)

theorem write_len (s : Sto) (i : Int) (b : List UInt8) : (write s i b).1.bs.length = s.bs.length := by
  unfold write
  repeat' split
  all_goals simp
theorem write_ok {s : Sto} (h : s.Ok) (i : Int) (b : List UInt8) : (write s i b).1.Ok := by
  unfold write
  split
  · exact h
  · split
    · exact h
    · rename_i hr hb
      have hi : 0 ≤ i ∧ i.toNat < s.bs.length := by
        unfold reach at hr
        repeat' split at hr
        all_goals omega
      have hold : (s.bs.getD i.toNat []).length = 256 := by
        rw [List.getD_eq_getElem?_getD, List.getElem?_eq_getElem hi.2]
        exact h.whole _ (List.getElem_mem _)
      split
      · refine ⟨by simpa using h.some_, by simpa using h.few, fun x hx => ?_, by simp, by simp, h.k0, h.k1, by have := h.w0; simp; omega⟩
        rcases List.mem_or_eq_of_mem_set hx with hx | rfl
        · exact h.whole x hx
        · have h0 := h.k0
          have h1 := h.k1
          rw [List.length_append, List.length_take, List.length_drop, hold]
          omega
      · refine ⟨by simpa using h.some_, by simpa using h.few, fun x hx => ?_, by simp; omega, by have := h.l1; simp; omega, h.k0, h.k1, by have := h.w0; simp; omega⟩
        rcases List.mem_or_eq_of_mem_set hx with hx | rfl
        · exact h.whole x hx
        · omega
theorem arm_ok {s : Sto} (h : s.Ok) (a k : Int) (ha : a ≤ 9223372036854775807) : (arm s a k).1.Ok := by
  unfold arm
  split
  · exact h
  · split
    · exact h
    · exact ⟨h.some_, h.few, h.whole, by simp; omega, ha, by simp; omega, by simp; omega, h.w0⟩
theorem power_ok {s : Sto} (h : s.Ok) (on : Bool) : (power s on).Ok := ⟨h.some_, h.few, h.whole, by simp [power], by simp [power], h.k0, h.k1, h.w0⟩
theorem write_wr (s : Sto) (i : Int) (b : List UInt8) : s.wr ≤ (write s i b).1.wr ∧ (write s i b).1.wr ≤ s.wr + 1 := by
  unfold write
  repeat' split
  all_goals simp
  all_goals omega
end Go.Proofs.Ytdhnegcblnpmfaa.Stor
