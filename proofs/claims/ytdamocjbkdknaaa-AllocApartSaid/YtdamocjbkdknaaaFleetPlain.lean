/-
  Nodes as plain data: which may be, what an act does, the sets of nodes.
-/
import Derived.Test.YtdamocjbkdknaaaMem
namespace Go.Proofs.Ytdamocjbkdknaaa.Fleet
set_option linter.unusedVariables false

structure Nd where
  st : Int
  jb : Int
  ep : Int
  dr : Bool
  wt : Int
  si : Int
  ak : Int
deriving DecidableEq

def tickB (n : Int) : Bool := decide (0 ≤ n) && decide (n ≤ 1000000)
theorem tick_iff {n : Int} : tickB n = true ↔ 0 ≤ n ∧ n ≤ 1000000 := by simp [tickB]
def heldB (x : Nd) : Bool := decide (1 ≤ x.jb) && decide (x.jb ≤ 99999)
def bodyB (x : Nd) : Bool :=
  if x.st = 0 then x.jb == 0 && [0].contains x.wt else if x.st = 1 then heldB x && [0, 1, 3, 4].contains x.wt else if x.st = 2 then heldB x && [0, 2].contains x.wt
  else if x.st = 3 then heldB x && [5].contains x.wt else if x.st = 4 then x.jb == 0 && [0, 6].contains x.wt else false
def fineN (x : Nd) : Bool := decide (0 ≤ x.ep) && decide (x.ep ≤ 999999999) && tickB x.si && tickB x.ak && bodyB x
theorem fineN_iff {x : Nd} : fineN x = true ↔ (0 ≤ x.ep ∧ x.ep ≤ 999999999 ∧ tickB x.si = true ∧ tickB x.ak = true ∧ bodyB x = true) := by
  simp only [fineN, Bool.and_eq_true, decide_eq_true_eq]
  constructor
  · rintro ⟨⟨⟨⟨h1, h2⟩, h3⟩, h4⟩, h5⟩
    exact ⟨h1, h2, h3, h4, h5⟩
  · rintro ⟨h1, h2, h3, h4, h5⟩
    exact ⟨⟨⟨⟨h1, h2⟩, h3⟩, h4⟩, h5⟩
theorem body_cases {x : Nd} : bodyB x = true ↔ ((x.st = 0 ∧ x.jb = 0 ∧ x.wt = 0) ∨ (x.st = 1 ∧ 1 ≤ x.jb ∧ x.jb ≤ 99999 ∧ (x.wt = 0 ∨ x.wt = 1 ∨ x.wt = 3 ∨ x.wt = 4)) ∨ (x.st = 2 ∧ 1 ≤ x.jb ∧ x.jb ≤ 99999 ∧ (x.wt = 0 ∨ x.wt = 2)) ∨ (x.st = 3 ∧ 1 ≤ x.jb ∧ x.jb ≤ 99999 ∧ x.wt = 5) ∨ (x.st = 4 ∧ x.jb = 0 ∧ (x.wt = 0 ∨ x.wt = 6))) := by
  unfold bodyB heldB
  by_cases h0 : x.st = 0
  · simp [h0]
  by_cases h1 : x.st = 1
  · simp [h1, and_assoc]
  by_cases h2 : x.st = 2
  · simp [h2, and_assoc]
  by_cases h3 : x.st = 3
  · simp [h3, and_assoc]
  by_cases h4 : x.st = 4
  · simp [h4]
  · simp [h0, h1, h2, h3, h4]
def chk (l : List Nd) : Bool := decide (1 ≤ l.length) && decide (l.length ≤ 48) && l.all fineN
def chkE (l : List Nd) : Int := if chk l then 0 else 120
theorem chkE_yes {l : List Nd} (h : chk l = true) : chkE l = 0 := by simp [chkE, h]
theorem chkE_no {l : List Nd} (h : chk l = false) : chkE l = 120 := by simp [chkE, h]
structure Ok (l : List Nd) : Prop where
  some : 1 ≤ l.length
  few : l.length ≤ 48
  fine : ∀ x ∈ l, fineN x = true
theorem chk_iff {l : List Nd} : chk l = true ↔ Ok l := by
  simp only [chk, Bool.and_eq_true, decide_eq_true_eq, List.all_eq_true]
  exact ⟨fun ⟨⟨h1, h2⟩, h3⟩ => ⟨h1, h2, h3⟩, fun h => ⟨⟨h.some, h.few⟩, h.fine⟩⟩
theorem chk_short {l : List Nd} (h : l.length < 1) : chk l = false := by
  have : decide (1 ≤ l.length) = false := decide_eq_false (by omega)
  simp [chk, this]
theorem chk_long {l : List Nd} (h : 48 < l.length) : chk l = false := by
  have : decide (l.length ≤ 48) = false := decide_eq_false (by omega)
  simp [chk, this]
theorem chk_any {l : List Nd} (h1 : 1 ≤ l.length) (h2 : l.length ≤ 48) : chk l = !(l.any fun x => !fineN x) := by
  simp only [chk, h1, h2, decide_true, Bool.true_and]
  rw [List.all_eq_not_any_not]

/-- may an act be done? -/
def mayB (x : Nd) (act job : Int) : Bool :=
  if act = 1 ∨ act = 2 then x.st == 0 && !x.dr && decide (x.ep < 999999999) && decide (1 ≤ job) && decide (job ≤ 99999)
  else if act = 3 then x.st == 2 else if act = 4 ∨ act = 7 then x.st == 1 || x.st == 2 else if act = 5 then x.st == 1 && x.wt == 0 else if act = 6 then x.st == 1 && x.wt == 4
  else if act = 8 then x.st == 3 else if act = 9 then x.st != 4 && decide (x.ep < 999999999) else if act = 10 then x.st == 4 else if act = 11 then x.st == 4 && x.wt == 6
  else if act = 12 ∨ act = 13 then x.st != 4 else false
def sendN (x : Nd) (kind now : Int) : Nd := { x with wt := kind, si := now, ak := now }
/-- a node behind an act -/
def doneN (x : Nd) (act job now : Int) : Nd :=
  if act = 1 then sendN { x with st := 1, jb := job, ep := x.ep + 1 } 1 now
  else if act = 2 then sendN { x with st := 2, jb := job, ep := x.ep + 1 } 2 now
  else if act = 3 then sendN { x with st := 1 } 3 now
  else if act = 5 then sendN x 4 now
  else if act = 7 then sendN { x with st := 3 } 5 now
  else if act = 9 then { x with st := 4, jb := 0, ep := x.ep + 1, wt := 0 }
  else if act = 10 then sendN x 6 now
  else if act = 11 then { x with dr := false, st := 0, jb := 0, wt := 0 }
  else if act = 8 then { x with st := 0, jb := 0, wt := 0 }
  else if act = 4 ∨ act = 6 then { x with wt := 0 }
  else if act = 12 ∨ act = 13 then { x with dr := act == 12 }
  else x
/-- what Do returns -/
def doT (l : List Nd) (n act job now : Int) : List Nd × Int :=
  if chk l = false then ([], 120) else
  match if 0 ≤ n then l[n.toNat]? else none with
  | none => ([], 120)
  | some x => if tickB now = false then ([], 120) else if mayB x act job = false then ([], 120) else (l.set n.toNat (doneN x act job now), 0)

theorem done_fine {x : Nd} {act job now : Int} (hf : fineN x = true) (hm : mayB x act job = true) (ht : tickB now = true) : fineN (doneN x act job now) = true := by
  obtain ⟨h1, h2, h3, h4, h5⟩ := fineN_iff.1 hf
  have ht' := tick_iff.1 ht
  have hb := body_cases.1 h5
  rw [fineN_iff]
  unfold mayB at hm
  unfold doneN sendN
  by_cases a1 : act = 1
  · subst a1
    simp at hm
    refine ⟨by simp; omega, by simp; omega, by simpa using ht, by simpa using ht, body_cases.2 ?_⟩
    simp; omega
  by_cases a2 : act = 2
  · subst a2
    simp at hm
    refine ⟨by simp; omega, by simp; omega, by simpa using ht, by simpa using ht, body_cases.2 ?_⟩
    simp; omega
  by_cases a3 : act = 3
  · subst a3
    simp at hm
    refine ⟨by simp; omega, by simp; omega, by simpa using ht, by simpa using ht, body_cases.2 ?_⟩
    simp; omega
  by_cases a4 : act = 4
  · subst a4
    simp at hm
    refine ⟨by simp; omega, by simp; omega, by simpa using h3, by simpa using h4, body_cases.2 ?_⟩
    simp; omega
  by_cases a5 : act = 5
  · subst a5
    simp at hm
    refine ⟨by simp; omega, by simp; omega, by simpa using ht, by simpa using ht, body_cases.2 ?_⟩
    simp; omega
  by_cases a6 : act = 6
  · subst a6
    simp at hm
    refine ⟨by simp; omega, by simp; omega, by simpa using h3, by simpa using h4, body_cases.2 ?_⟩
    simp; omega
  by_cases a7 : act = 7
  · subst a7
    simp at hm
    refine ⟨by simp; omega, by simp; omega, by simpa using ht, by simpa using ht, body_cases.2 ?_⟩
    simp; omega
  by_cases a8 : act = 8
  · subst a8
    simp at hm
    refine ⟨by simp; omega, by simp; omega, by simpa using h3, by simpa using h4, body_cases.2 ?_⟩
    simp
  by_cases a9 : act = 9
  · subst a9
    simp at hm
    refine ⟨by simp; omega, by simp; omega, by simpa using h3, by simpa using h4, body_cases.2 ?_⟩
    simp
  by_cases a10 : act = 10
  · subst a10
    simp at hm
    refine ⟨by simp; omega, by simp; omega, by simpa using ht, by simpa using ht, body_cases.2 ?_⟩
    simp; omega
  by_cases a11 : act = 11
  · subst a11
    simp at hm
    refine ⟨by simp; omega, by simp; omega, by simpa using h3, by simpa using h4, body_cases.2 ?_⟩
    simp
  by_cases a12 : act = 12
  · subst a12
    refine ⟨by simp; omega, by simp; omega, by simpa using h3, by simpa using h4, body_cases.2 ?_⟩
    simpa using hb
  by_cases a13 : act = 13
  · subst a13
    refine ⟨by simp; omega, by simp; omega, by simpa using h3, by simpa using h4, body_cases.2 ?_⟩
    simpa using hb
  · simp [a1, a2, a3, a4, a5, a6, a7, a8, a9, a10, a11, a12, a13] at hm
theorem done_ep {x : Nd} {act job now : Int} (hf : fineN x = true) (hm : mayB x act job = true) : x.ep ≤ (doneN x act job now).ep ∧ ((doneN x act job now).jb ≠ x.jb → (doneN x act job now).jb ≠ 0 → (doneN x act job now).ep ≠ x.ep) := by
  unfold doneN sendN
  repeat' split
  all_goals (simp <;> omega)
end Go.Proofs.Ytdamocjbkdknaaa.Fleet
