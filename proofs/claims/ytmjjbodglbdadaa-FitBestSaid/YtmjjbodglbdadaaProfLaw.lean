/-
  ProfileOrder, ProfileBack: the laws' walks.
-/
import Derived.Test.YtmjjbodglbdadaaProf6
import Derived.Test.YtmjjbodglbdadaaProfPlain4
import Derived.Test.YtmjjbodglbdadaaProfOpen
namespace Go.Proofs.Ytmjjbodglbdadaa.ProfW
open Go.RowKit Mem Prof
set_option linter.unusedVariables false

abbrev TrueB (W : World) (e : Ending) (w' : World) : Prop := e = .returned (.bool true) ∧ Below W.heap.size W w'
theorem few_is (r : Bool) (A : Option Addr) (n c : Nat) (w : World) (h : decide ((n : Int) ≤ 200) = r) : Calls Try.prog 12 #[.slice A n c] w fun e w' => e = .returned (.bool r) ∧ w = w' := by rw [← h]; exact few_any A n c w
theorem blk3 {w : World} {g : Nat} {t : TypeId} {v0 v1 v2 : Value} (h : Blk w g t #[v0, v1, v2]) : w.cell? ⟨g, 0, none⟩ = some v0 ∧ w.cell? ⟨g, 1, none⟩ = some v1 ∧ w.cell? ⟨g, 2, none⟩ = some v2 := ⟨h.cell 0, h.cell 1, h.cell 2⟩
theorem AddPost.arg {r : List Stp × Int} {w w' : World} {A : Option Addr} {c : Nat} (h : StepsO w' w.heap.size A r.1.length c r.1) : ArgS w' A r.1.length c r.1 := ⟨h.lst layS, SOwn.max h, h.2.le, h.2.bare⟩
theorem ArgS.below {w w' : World} {A : Option Addr} {n c : Nat} {p : List Stp} (h : ArgS w A n c p) (hb : Below w.heap.size w w') : ArgS w' A n c p := ⟨h.st.below hb, h.max, h.le, h.bare⟩
theorem add_arg {A : Option Addr} {m c : Nat} {p : List Stp} {w : World} (h : ArgS w A m c p) (a b n : Int) :
    Calls Try.prog 23 #[.slice A m c, .int .i64 a, .int .i64 b, .int .i64 n] w (AddPost (add p a b n) w) := add_any A m c p a b n w h.st h.max h.le h.bare

set_option maxHeartbeats 2000000 in
set_option maxRecDepth 100000 in
theorem order_any (A : Option Addr) (m c : Nat) (p : List Stp) (s t : Spn) (W : World) (h : ArgS W A m c p) :
    Calls Try.prog 5 #[.slice A m c, .agg #[.int .i64 s.a, .int .i64 s.b, .int .i64 s.n], .agg #[.int .i64 t.a, .int .i64 t.b, .int .i64 t.n]] W fun e w' => e = .returned (.bool true) ∧ Below W.heap.size W w' := by
  have HA : Hid (∀ w, Calls Try.prog 13 #[] w fun e w' => e = .returned (.bool true) ∧ Below w.heap.size w w') := awake_any
  obtain ⟨V, hV⟩ : ∃ V, V = (W.alloc (.cells #[.int .i64 s.a, .int .i64 s.b, .int .i64 s.n] 34)).alloc (.cells #[.int .i64 t.a, .int .i64 t.b, .int .i64 t.n] 34) := ⟨_, rfl⟩
  have bV : Below W.heap.size W V := by rw [hV]; exact ((Below.refl _ _).alloc (Nat.le_refl _) _).alloc (by simp) _
  have k1 : Blk V W.heap.size 34 #[.int .i64 s.a, .int .i64 s.b, .int .i64 s.n] := by rw [hV]; exact (Blk.new _ _ _).alloc _
  have k2 : Blk V (W.heap.size + 1) 34 #[.int .i64 t.a, .int .i64 t.b, .int .i64 t.n] := by
    rw [hV]
    have := Blk.new (W.alloc (.cells #[.int .i64 s.a, .int .i64 s.b, .int .i64 s.n] 34)) 34 #[.int .i64 t.a, .int .i64 t.b, .int .i64 t.n]
    simpa using this
  by_cases hf : (m : Int) ≤ 200
  · have HF := Lib.hid (few_is true A m c V (by simpa using hf))
    have HW := Lib.hid h
    have HV := Lib.hid hV
    obtain ⟨r1, hr1⟩ : ∃ r, r = add p s.a s.b s.n := ⟨_, rfl⟩
    obtain ⟨r2, hr2⟩ : ∃ r, r = add p t.a t.b t.n := ⟨_, rfl⟩
    have HR1 := Lib.hid hr1
    have HR2 := Lib.hid hr2
    clear h hV hr1 hr2
    go_enter Try.func5, Try.ntmps5
    go_wp2_with fail
    rw [← HV.out]
    refine HF.out.mono ?_
    rintro e w1 ⟨rfl, rfl⟩
    obtain ⟨x0, x1, x2⟩ := blk3 k1
    obtain ⟨y0, y1, y2⟩ := blk3 k2
    go_wp2_with fail
    refine (add_arg (HW.out.below bV) s.a s.b s.n).mono ?_
    rw [← HR1.out]
    rintro e w1 ⟨A1, c1, rfl, ho1, b1⟩
    have g1 := k1.below b1 k1.lt
    have g2 := k2.below b1 k2.lt
    have bw1 := below_step bV b1
    clear x0 x1 x2 y0 y1 y2
    obtain ⟨x0, x1, x2⟩ := blk3 g1
    obtain ⟨y0, y1, y2⟩ := blk3 g2
    go_wp2_with fail
    refine (add_arg (HW.out.below bw1) t.a t.b t.n).mono ?_
    rw [← HR2.out]
    rintro e w2 ⟨A2, c2, rfl, ho2, b2⟩
    have hq1 := (AddPost.arg ho1).below b2
    have hq2 := AddPost.arg ho2
    have j1 := g1.below b2 g1.lt
    have j2 := g2.below b2 g2.lt
    have bw2 := below_step bw1 b2
    clear x0 x1 x2 y0 y1 y2 ho1 ho2 g1 g2 k1 k2 b1 b2 bw1 bV
    obtain ⟨x0, x1, x2⟩ := blk3 j1
    obtain ⟨y0, y1, y2⟩ := blk3 j2
    by_cases h1 : r1.2 = 0
    · have e1 : (r1.2 != 0) = false := by simp [h1]
      by_cases h2 : r2.2 = 0
      · have e2 : (r2.2 != 0) = false := by simp [h2]
        have HO : Hid (add r1.1 t.a t.b t.n = add r2.1 s.a s.b s.n) := by
          show _ = _
          rw [HR1.out] at h1 ⊢
          rw [HR2.out] at h2 ⊢
          exact order h1 h2
        obtain ⟨r3, hr3⟩ : ∃ r, r = add r1.1 t.a t.b t.n := ⟨_, rfl⟩
        have HR3 := Lib.hid hr3
        clear hr3 h1 h2
        go_wp2_with fail
        refine (add_arg hq1 t.a t.b t.n).mono ?_
        rw [← HR3.out]
        rintro e w3 ⟨A3, c3, rfl, ho3, b3⟩
        have l1 := j1.below b3 j1.lt
        have bw3 := below_step bw2 b3
        have hq3 := hq2.below b3
        clear x0 x1 x2 y0 y1 y2
        obtain ⟨x0, x1, x2⟩ := blk3 l1
        go_wp2_with fail
        refine (add_arg hq3 s.a s.b s.n).mono ?_
        rw [← HO.out, ← HR3.out]
        rintro e w4 ⟨A4, c4, rfl, ho4, b4⟩
        have bw4 := below_step bw3 b4
        clear x0 x1 x2
        go_wp2_with fail
        refine (rsame_is true A3 A4 _ _ c3 c4 r3.1 r3.1 w4 ((AddPost.arg ho3).below b4).st (AddPost.arg ho4).st (SOwn.max ho3) (SOwn.max ho4) (by simp)).mono ?_
        rintro e w5 ⟨rfl, dr, rfl⟩
        go_wp2_with fail
        refine (HA.out _).mono ?_
        rintro e w6 ⟨rfl, hb6⟩
        go_wp2_with fail
        go_ret
        exact ⟨rfl, below_step (below_drewN bw4 dr) hb6⟩
      · have e2 : (r2.2 != 0) = true := by simpa using h2
        clear h1 h2
        go_wp2_with fail
        refine (HA.out _).mono ?_
        rintro e w6 ⟨rfl, hb6⟩
        go_wp2_with fail
        go_ret
        exact ⟨rfl, below_step bw2 hb6⟩
    · have e1 : (r1.2 != 0) = true := by simpa using h1
      clear h1
      go_wp2_with fail
      refine (HA.out _).mono ?_
      rintro e w6 ⟨rfl, hb6⟩
      go_wp2_with fail
      go_ret
      exact ⟨rfl, below_step bw2 hb6⟩
  · have HF := Lib.hid (few_is false A m c V (by simpa using hf))
    have HV := Lib.hid hV
    clear h hV
    go_enter Try.func5, Try.ntmps5
    go_wp2_with fail
    rw [← HV.out]
    refine HF.out.mono ?_
    rintro e w1 ⟨rfl, rfl⟩
    go_wp2_with fail
    refine (HA.out _).mono ?_
    rintro e w6 ⟨rfl, hb6⟩
    go_wp2_with fail
    go_ret
    exact ⟨rfl, below_step bV hb6⟩
end Go.Proofs.Ytmjjbodglbdadaa.ProfW
