/-
  Contracts of muster/alloc: Grant, Held, Quiet.
-/
import Derived.Test.YtdamocjbkdknaaaAllocEach2
namespace Go.Proofs.Ytdamocjbkdknaaa.FleetW
open Go.RowKit Mem Fleet
set_option linter.unusedVariables false
set_option linter.unusedSimpArgs false
set_option linter.unnecessarySimpa false

def grantT (l : List Nd) (nodes act job now : Int) : List Nd × Nat × List Nt × Int :=
  if act ≠ 1 ∧ act ≠ 2 then ([], 0, [], 120) else
  if chk l = false then ([], 0, [], 120) else
  if nodes < 1 ∨ 48 < nodes then ([], 0, [], 2) else
  if (lowT (whereN freeQ l) nodes).2 = false then ([], 0, [], 130) else
  if (eachT l (lowT (whereN freeQ l) nodes).1 act job now).2.2 = 0 then ((eachT l (lowT (whereN freeQ l) nodes).1 act job now).1, (lowT (whereN freeQ l) nodes).1, (eachT l (lowT (whereN freeQ l) nodes).1 act job now).2.1, 0)
  else ([], 0, [], (eachT l (lowT (whereN freeQ l) nodes).1 act job now).2.2)
def GrantPost (r : List Nd × Nat × List Nt × Int) (w : World) (e : Ending) (w' : World) : Prop := ∃ A c B d, e = .returned (.tuple #[.slice A r.1.length c, .int .u64 (r.2.1 : Int), .slice B r.2.2.1.length d, .int .i64 r.2.2.2]) ∧ NdsO w' w.heap.size A r.1.length c r.1 ∧ NtsO w' w.heap.size B r.2.2.1.length d r.2.2.1 ∧ Below w.heap.size w w'
theorem grantPost_no {r : Int} {w w' : World} (b : Below w.heap.size w w') : GrantPost ([], 0, [], r) w (.returned (.tuple #[.slice none 0 0, .int .u64 0, .slice none 0 0, .int .i64 r])) w' := ⟨none, 0, none, 0, rfl, SOwn.nil _ _ _ _, SOwn.nil _ _ _ _, b⟩
theorem lowT_lt (s : Nat) (n : Int) (hs : s < 2 ^ 64) : (lowT s n).1 < 2 ^ 64 := by
  unfold lowT
  split
  · simp
  · refine setM_lt _ _ ((memL_up s).sublist (List.take_sublist _ _)) fun y hy => ?_
    exact memL_lt (List.mem_of_mem_take hy)
theorem whereN_lt (q : Nd → Bool) (l : List Nd) : whereN q l < 2 ^ 64 := by
  unfold whereN
  split
  · next h => exact Nat.lt_of_lt_of_le (setB_lt q l) (Nat.pow_le_pow_right (by omega) (by have := (chk_iff.1 h).few; omega))
  · simp
theorem results_four {fn : Func} {t u v x : Tmp} (h : fn.results = #[.tmp t, .tmp u, .tmp v, .tmp x]) (tmps : Array Value) (P : Program) (w : World) :
    (results fn tmps).run P w = .ok (.tuple #[tmps.getD t undef, tmps.getD u undef, tmps.getD v undef, tmps.getD x undef]) w := by
  simp [results, h]
set_option maxHeartbeats 2000000 in
theorem grant_any (A : Option Addr) (n c : Nat) (l : List Nd) (nodes act job now : Int) (w : World) (h : Nds w A n l) (hn : n ≤ maxLen) (hA : A = none → c = 0) :
    Calls Try.prog 35 #[.slice A n c, .int .i64 nodes, .int .i64 act, .int .i64 job, .int .i64 now] w (GrantPost (grantT l nodes act job now) w) := by
  have hlen := h.len
  subst hlen
  by_cases ha : act ≠ 1 ∧ act ≠ 2
  · rw [grantT, if_pos ha]
    have e1 : (act == 1) = false := by simp [ha.1]
    have e2 : (act == 2) = false := by simp [ha.2]
    obtain ⟨n1, n2⟩ := ha
    have d1 : decide (act = 1) = false := by simp [n1]
    have d2 : decide (act = 2) = false := by simp [n2]
    clear h hA
    go_enter Try.func35, Try.ntmps35
    go_wp2_with fail
    (try simp only [Exit.inBlock, Exit.then]); refine bodyPost_ret (results_four rfl _ _ _) rfl ?_
    exact grantPost_no (Below.refl _ _)
  have HCk := Lib.hid (check_any A l.length c l w h hn)
  rw [grantT, if_neg ha]
  have ha' : act = 1 ∨ act = 2 := by
    by_cases h1 : act = 1
    · exact .inl h1
    · by_cases h2 : act = 2
      · exact .inr h2
      · exact absurd ⟨h1, h2⟩ ha
  clear ha
  by_cases hck : chk l = false
  · rw [if_pos hck]
    rw [chkE_no hck] at HCk
    clear h hA hck
    rcases ha' with rfl | rfl
    · go_enter Try.func35, Try.ntmps35
      go_wp2_with fail
      refine HCk.out.mono ?_
      rintro e w1 ⟨rfl, b1⟩
      go_wp2_with fail
      (try simp only [Exit.inBlock, Exit.then]); refine bodyPost_ret (results_four rfl _ _ _) rfl ?_
      exact grantPost_no b1
    · go_enter Try.func35, Try.ntmps35
      go_wp2_with fail
      refine HCk.out.mono ?_
      rintro e w1 ⟨rfl, b1⟩
      go_wp2_with fail
      (try simp only [Exit.inBlock, Exit.then]); refine bodyPost_ret (results_four rfl _ _ _) rfl ?_
      exact grantPost_no b1
  have hck' : chk l = true := by simpa using hck
  rw [if_neg hck]
  rw [chkE_yes hck'] at HCk
  have hfew := (chk_iff.1 hck').few
  clear hck hck'
  by_cases hn1 : nodes < 1
  · rw [if_pos (.inl hn1)]
    have d1 : decide (nodes < 1) = true := by simp [hn1]
    clear h hA
    rcases ha' with rfl | rfl
    · go_enter Try.func35, Try.ntmps35
      go_wp2_with fail
      refine HCk.out.mono ?_
      rintro e w1 ⟨rfl, b1⟩
      go_wp2_with fail
      (try simp only [Exit.inBlock, Exit.then]); refine bodyPost_ret (results_four rfl _ _ _) rfl ?_
      exact grantPost_no b1
    · go_enter Try.func35, Try.ntmps35
      go_wp2_with fail
      refine HCk.out.mono ?_
      rintro e w1 ⟨rfl, b1⟩
      go_wp2_with fail
      (try simp only [Exit.inBlock, Exit.then]); refine bodyPost_ret (results_four rfl _ _ _) rfl ?_
      exact grantPost_no b1
  have d1 : decide (nodes < 1) = false := by simp [hn1]
  by_cases hn2 : 48 < nodes
  · rw [if_pos (.inr hn2)]
    have d2 : decide (48 < nodes) = true := by simp [hn2]
    clear h hA
    rcases ha' with rfl | rfl
    · go_enter Try.func35, Try.ntmps35
      go_wp2_with fail
      refine HCk.out.mono ?_
      rintro e w1 ⟨rfl, b1⟩
      go_wp2_with fail
      (try simp only [Exit.inBlock, Exit.then]); refine bodyPost_ret (results_four rfl _ _ _) rfl ?_
      exact grantPost_no b1
    · go_enter Try.func35, Try.ntmps35
      go_wp2_with fail
      refine HCk.out.mono ?_
      rintro e w1 ⟨rfl, b1⟩
      go_wp2_with fail
      (try simp only [Exit.inBlock, Exit.then]); refine bodyPost_ret (results_four rfl _ _ _) rfl ?_
      exact grantPost_no b1
  have d2 : decide (48 < nodes) = false := by simp [hn2]
  rw [if_neg (by omega)]
  have HFr := Lib.hid fun (w1 : World) (b : Below w.heap.size w w1) => free_any A l.length c l w1 (h.below b) hn
  have hs64 : whereN freeQ l < 2 ^ 64 := whereN_lt _ _ 
  have HLo := Lib.hid fun (w1 : World) => lowest_any (whereN freeQ l) nodes w1 hs64
  have hq64 := lowT_lt (whereN freeQ l) nodes hs64
  have HEa := Lib.hid fun (w1 : World) (b : Below w.heap.size w w1) => each_any A l.length c l (lowT (whereN freeQ l) nodes).1 act job now w1 (h.below b) hn hA hq64
  obtain ⟨q, hq⟩ : ∃ q, q = lowT (whereN freeQ l) nodes := ⟨_, rfl⟩
  rw [← hq] at HLo HEa ⊢
  obtain ⟨r, hr⟩ : ∃ r, r = eachT l q.1 act job now := ⟨_, rfl⟩
  rw [← hr] at HEa ⊢
  clear hq hr h hA hs64 hq64
  obtain ⟨q1, q2⟩ := q
  obtain ⟨r1, r2, r3⟩ := r
  simp only at HLo HEa ⊢
  cases q2
  · rw [if_pos rfl]
    rcases ha' with rfl | rfl
    · go_enter Try.func35, Try.ntmps35
      go_wp2_with fail
      refine HCk.out.mono ?_
      rintro e w1 ⟨rfl, b1⟩
      go_wp2_with fail
      refine (HFr.out _ b1).mono ?_
      rintro e w2 ⟨rfl, b2⟩
      go_wp2_with fail
      refine (HLo.out _).mono ?_
      rintro e w3 ⟨rfl, rfl⟩
      go_wp2_with fail
      (try simp only [Exit.inBlock, Exit.then]); refine bodyPost_ret (results_four rfl _ _ _) rfl ?_
      exact grantPost_no (below_step b1 b2)
    · go_enter Try.func35, Try.ntmps35
      go_wp2_with fail
      refine HCk.out.mono ?_
      rintro e w1 ⟨rfl, b1⟩
      go_wp2_with fail
      refine (HFr.out _ b1).mono ?_
      rintro e w2 ⟨rfl, b2⟩
      go_wp2_with fail
      refine (HLo.out _).mono ?_
      rintro e w3 ⟨rfl, rfl⟩
      go_wp2_with fail
      (try simp only [Exit.inBlock, Exit.then]); refine bodyPost_ret (results_four rfl _ _ _) rfl ?_
      exact grantPost_no (below_step b1 b2)
  · rw [if_neg (by simp)]
    by_cases he : r3 = 0
    · subst he
      rw [if_pos rfl]
      rcases ha' with rfl | rfl
      · go_enter Try.func35, Try.ntmps35
        go_wp2_with fail
        refine HCk.out.mono ?_
        rintro e w1 ⟨rfl, b1⟩
        go_wp2_with fail
        refine (HFr.out _ b1).mono ?_
        rintro e w2 ⟨rfl, b2⟩
        have b02 := below_step b1 b2
        go_wp2_with fail
        refine (HLo.out _).mono ?_
        rintro e w3 ⟨rfl, rfl⟩
        go_wp2_with fail
        refine (HEa.out _ b02).mono ?_
        rintro e w4 ⟨B, d, C, f, rfl, o4, p4, b4⟩
        have HO := Lib.hid o4
        have HP := Lib.hid p4
        clear o4 p4
        go_wp2_with fail
        (try simp only [Exit.inBlock, Exit.then]); refine bodyPost_ret (results_four rfl _ _ _) rfl ?_
        exact ⟨B, d, C, f, rfl, HO.out.mono b02.size, HP.out.mono b02.size, below_step b02 b4⟩
      · go_enter Try.func35, Try.ntmps35
        go_wp2_with fail
        refine HCk.out.mono ?_
        rintro e w1 ⟨rfl, b1⟩
        go_wp2_with fail
        refine (HFr.out _ b1).mono ?_
        rintro e w2 ⟨rfl, b2⟩
        have b02 := below_step b1 b2
        go_wp2_with fail
        refine (HLo.out _).mono ?_
        rintro e w3 ⟨rfl, rfl⟩
        go_wp2_with fail
        refine (HEa.out _ b02).mono ?_
        rintro e w4 ⟨B, d, C, f, rfl, o4, p4, b4⟩
        have HO := Lib.hid o4
        have HP := Lib.hid p4
        clear o4 p4
        go_wp2_with fail
        (try simp only [Exit.inBlock, Exit.then]); refine bodyPost_ret (results_four rfl _ _ _) rfl ?_
        exact ⟨B, d, C, f, rfl, HO.out.mono b02.size, HP.out.mono b02.size, below_step b02 b4⟩
    · rw [if_neg he]
      have e1 : (r3 == 0) = false := by simpa using he
      rcases ha' with rfl | rfl
      · go_enter Try.func35, Try.ntmps35
        go_wp2_with fail
        refine HCk.out.mono ?_
        rintro e w1 ⟨rfl, b1⟩
        go_wp2_with fail
        refine (HFr.out _ b1).mono ?_
        rintro e w2 ⟨rfl, b2⟩
        have b02 := below_step b1 b2
        go_wp2_with fail
        refine (HLo.out _).mono ?_
        rintro e w3 ⟨rfl, rfl⟩
        go_wp2_with fail
        refine (HEa.out _ b02).mono ?_
        rintro e w4 ⟨B, d, C, f, rfl, o4, p4, b4⟩
        clear o4 p4
        go_wp2_with fail
        (try simp only [Exit.inBlock, Exit.then]); refine bodyPost_ret (results_four rfl _ _ _) rfl ?_
        exact grantPost_no (below_step b02 b4)
      · go_enter Try.func35, Try.ntmps35
        go_wp2_with fail
        refine HCk.out.mono ?_
        rintro e w1 ⟨rfl, b1⟩
        go_wp2_with fail
        refine (HFr.out _ b1).mono ?_
        rintro e w2 ⟨rfl, b2⟩
        have b02 := below_step b1 b2
        go_wp2_with fail
        refine (HLo.out _).mono ?_
        rintro e w3 ⟨rfl, rfl⟩
        go_wp2_with fail
        refine (HEa.out _ b02).mono ?_
        rintro e w4 ⟨B, d, C, f, rfl, o4, p4, b4⟩
        clear o4 p4
        go_wp2_with fail
        (try simp only [Exit.inBlock, Exit.then]); refine bodyPost_ret (results_four rfl _ _ _) rfl ?_
        exact grantPost_no (below_step b02 b4)
end Go.Proofs.Ytdamocjbkdknaaa.FleetW
