/-
  FitBest: the law's walk; its arguments, opened.
-/
import Derived.Test.YtmjjbodglbdadaaFitLaw
import Derived.Test.YtmjjbodglbdadaaFit7
import Derived.Laws.IdiomArrays
namespace Go.Proofs.Ytmjjbodglbdadaa.ProfW
open Go.ChangeShapes Go.WideShapes Go.ChangeAt Go.RowKit Go.Deep Mem Prof
set_option linter.unusedVariables false

section
variable {H : Type} {enc : TypeId × Value → H} {w : World} {base : Nat} {spare : Nat → Bool} {held : Bool}
theorem open_alts {a0 : Option Addr} {len0 cap0 : Nat} {d : DataW H} {p : List MemPlace} (h : DataW.Trod enc Try.prog w base spare held 50 (.slice a0 len0 cap0) d p) :
    ∃ l, ArgS w a0 len0 cap0 l := by
  obtain ⟨hm, rows, hrows, hf⟩ := open_rows Try.underlying50 Try.underlying63 (by kernel_rfl) (by kernel_rfl) (by decide) h
  obtain ⟨h1, h2⟩ := open_hdr Try.underlying50 h
  obtain ⟨l, rfl, _⟩ := exists_map stpRow (fun _ => True) rows (fun r hr => by
    obtain ⟨v0, v1, rfl⟩ := list2 (hrows.each r hr)
    obtain ⟨u0, n0, y0, e0, t0⟩ := hf _ hr 0 _ rfl
    obtain ⟨u1, n1, y1, e1, t1⟩ := hf _ hr 1 _ rfl
    simp at e0 e1
    subst e0 e1
    obtain ⟨z0, q0, _, w0⟩ := DataW.trod_int Try.underlying3 t0
    obtain ⟨z1, q1, _, w1⟩ := DataW.trod_int Try.underlying3 t1
    simp at q0 q1
    subst q0 q1
    exact ⟨(z0, z1), rfl, trivial⟩)
  exact ⟨l, hrows, hm, h1, h2⟩
theorem array_of3 {cs : Array Value} (h : cs.size = 3) : ∃ a b c, cs = #[a, b, c] := by
  obtain ⟨l⟩ := cs
  match l, h with
  | [a, b, c], _ => exact ⟨a, b, c, rfl⟩
set_option maxRecDepth 100000 in
theorem open_three {r : Reach} {b0 : Nat} {v : Value} {d : DataW H} {p : List MemPlace} (hv : Value.okWide Try.prog w r b0 51 v) (h : DataW.Trod enc Try.prog w base spare held 51 v d p) :
    ∃ a : Spn, v = .agg #[.int .i64 a.a, .int .i64 a.b, .int .i64 a.n] ∧ ((-9223372036854775808 ≤ a.a ∧ a.a ≤ 9223372036854775807) ∧ (-9223372036854775808 ≤ a.b ∧ a.b ≤ 9223372036854775807) ∧ (-9223372036854775808 ≤ a.n ∧ a.n ≤ 9223372036854775807)) := by
  simp only [Value.okWide, Try.underlying51] at hv
  obtain ⟨cs, rfl, h2, _⟩ := hv
  obtain ⟨v0, v1, v2, rfl⟩ := array_of3 (h2.trans (show Try.prog.cellsOf 51 = 3 by kernel_rfl))
  obtain ⟨fuel, hf⟩ := h
  obtain ⟨y0, y1, y2, n, _, t0, t1, t2⟩ := trod_array3 Try.underlying51 (by kernel_rfl) hf
  obtain ⟨z0, q0, _, w0⟩ := DataW.trod_int Try.underlying3 t0
  obtain ⟨z1, q1, _, w1⟩ := DataW.trod_int Try.underlying3 t1
  obtain ⟨z2, q2, _, w2⟩ := DataW.trod_int Try.underlying3 t2
  simp at q0 q1 q2
  subst q0 q1 q2
  exact ⟨⟨z0, z1, z2⟩, rfl, bounds_i64 w0, bounds_i64 w1, bounds_i64 w2⟩
end
theorem rbest_any (A : Option Addr) (n c : Nat) (p : List Stp) (B : Option Addr) (m d : Nat) (opts : List Stp) (fr latest gr0 : Int) (w : World) (h : Steps w A n p) (hn : n ≤ maxLen) (g : Steps w B m opts) (hm : m ≤ maxLen) :
    Calls Try.prog 34 #[.slice A n c, .slice B m d, .int .i64 fr, .int .i64 latest, .int .i64 gr0] w (BestPost (bestT p fr latest gr0 opts) w) := by
  have hl := g.len
  subst hl
  have := rbest_main A n c p B d opts fr latest gr0 (max gr0 0) (min opts.length 48) w h hn g hm rfl (by omega) (by omega)
  rw [(bestN_congr _ opts (opts.take 48) (min opts.length 48) (fun k hk => by rw [List.getElem?_take_of_lt (by omega)])).1] at this
  exact this
set_option maxHeartbeats 4000000 in
set_option maxRecDepth 100000 in
theorem fitbest_any (A : Option Addr) (m c : Nat) (p : List Stp) (B : Option Addr) (k d : Nat) (opts : List Stp) (s : Spn) (W : World) (h : ArgS W A m c p) (g : ArgS W B k d opts) :
    Calls Try.prog 9 #[.slice A m c, .slice B k d, .agg #[.int .i64 s.a, .int .i64 s.b, .int .i64 s.n]] W fun e w' => e = .returned (.bool true) ∧ Below W.heap.size W w' := by
  have HA : Hid (∀ w, Calls Try.prog 26 #[] w fun e w' => e = .returned (.bool true) ∧ Below w.heap.size w w') := awake11_any
  obtain ⟨V, hV⟩ : ∃ V, V = W.alloc (.cells #[.int .i64 s.a, .int .i64 s.b, .int .i64 s.n] 51) := ⟨_, rfl⟩
  have bV : Below W.heap.size W V := by rw [hV]; exact (Below.refl _ _).alloc (Nat.le_refl _) _
  have k1 : Blk V W.heap.size 51 #[.int .i64 s.a, .int .i64 s.b, .int .i64 s.n] := by rw [hV]; exact Blk.new _ _ _
  have HV := Lib.hid hV
  have HW := Lib.hid h
  have HG := Lib.hid g
  clear h hV g
  by_cases hf : (m : Int) ≤ 200
  · have HF := Lib.hid (few_is true A m c V (by simpa using hf))
    by_cases hk : (k : Int) ≤ 100
    · obtain ⟨r, hr⟩ : ∃ r, r = bestT p s.a s.b s.n opts := ⟨_, rfl⟩
      have HR := Lib.hid hr
      clear hr
      obtain ⟨x0, x1, x2⟩ := blk3 k1
      go_enter Try.func9, Try.ntmps9
      go_wp2_with fail
      rw [← HV.out]
      refine HF.out.mono ?_
      rintro e w1 ⟨rfl, rfl⟩
      go_wp2_with fail
      refine (best_any A m c p B k d opts s.a s.b s.n V (HW.out.st.below bV) HW.out.max (HG.out.st.below bV) HG.out.max HG.out.le).mono ?_
      rw [← HR.out]
      rintro e w1 ⟨rfl, b1⟩
      have g1 := k1.below b1 k1.lt
      have bw1 := below_step bV b1
      clear x0 x1 x2 b1 bV k1
      obtain ⟨x0, x1, x2⟩ := blk3 g1
      go_wp2_with fail
      refine (rbest_any A m c p B k d opts s.a s.b s.n w1 (HW.out.st.below bw1) HW.out.max (HG.out.st.below bw1) HG.out.max).mono ?_
      rw [← HR.out]
      rintro e w2 ⟨rfl, b2⟩
      have bw2 := below_step bw1 b2
      clear x0 x1 x2 b2 bw1 g1
      go_wp2_with fail
      refine (HA.out _).mono ?_
      rintro e w6 ⟨rfl, hb6⟩
      go_wp2_with fail
      go_ret
      exact ⟨rfl, below_step bw2 hb6⟩
    · go_enter Try.func9, Try.ntmps9
      go_wp2_with fail
      rw [← HV.out]
      refine HF.out.mono ?_
      rintro e w1 ⟨rfl, rfl⟩
      go_wp2_with fail
      refine (HA.out _).mono ?_
      rintro e w6 ⟨rfl, hb6⟩
      go_wp2_with fail
      go_ret
      exact ⟨rfl, below_step bV hb6⟩
  · have HF := Lib.hid (few_is false A m c V (by simpa using hf))
    go_enter Try.func9, Try.ntmps9
    go_wp2_with fail
    rw [← HV.out]
    refine HF.out.mono ?_
    rintro e w1 ⟨rfl, rfl⟩
    go_wp2_with fail
    refine (HA.out _).mono ?_
    rintro e w6 ⟨rfl, hb6⟩
    go_wp2_with fail
    go_ret
    exact ⟨rfl, below_step bV hb6⟩
end Go.Proofs.Ytmjjbodglbdadaa.ProfW
