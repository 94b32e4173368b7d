/-
  Contracts of musterlaw19: Few, awake.
-/
import Derived.Test.YthfnmighhoighaaBookFn4
import Derived.Test.YthfnmighhoighaaProfLaw
namespace Go.Proofs.Ythfnmighhoighaa.BookW
open Go.RowKit Mem Prof Book ProfW
set_option linter.unusedVariables false
set_option linter.unusedSimpArgs false

theorem badd_is (r : List Bk) (e : Int) (A : Option Addr) (n c : Nat) (l : List Bk) (b : Bk) (w : World) (h : Bks w A n l) (hn : n ≤ maxLen) (hA : A = none → c = 0) (hr : addT l b = (r, e)) :
    Calls Try.prog 30 #[.slice A n c, .agg #[.int .i64 b.id, .int .i64 b.fr, .int .i64 b.to, .int .i64 b.nd]] w (BPost (r, e) w) := by rw [← hr]; exact badd_any A n c l b w h hn hA
theorem drop_is (r : List Bk) (e : Int) (A : Option Addr) (n c : Nat) (l : List Bk) (I : Option Addr) (m d : Nat) (ids : List Int) (w : World) (h : Bks w A n l) (hn : n ≤ maxLen) (hA : A = none → c = 0) (g : Ints w I m ids) (hm : m ≤ maxLen) (hr : dropT l ids = (r, e)) :
    Calls Try.prog 32 #[.slice A n c, .slice I m d] w (BPost (r, e) w) := by rw [← hr]; exact drop_any A n c l I m d ids w h hn hA g hm
theorem past_is (r : List Bk) (A : Option Addr) (n c : Nat) (l : List Bk) (now : Int) (w : World) (h : Bks w A n l) (hn : n ≤ maxLen) (hA : A = none → c = 0) (hr : pastT l now = r) :
    Calls Try.prog 35 #[.slice A n c, .int .i64 now] w (NewB r w) := by rw [← hr]; exact past_any A n c l now w h hn hA
theorem take_is (r : List Stp) (e : Int) (A : Option Addr) (n c : Nat) (p : List Stp) (B : Option Addr) (m d : Nat) (l : List Bk) (w : World) (h : ProfW.Steps w A n p) (hn : n ≤ maxLen) (hA : A = none → c = 0) (g : Bks w B m l) (hm : m ≤ maxLen) (hr : takeT p l = (r, e)) :
    Calls Try.prog 40 #[.slice A n c, .slice B m d] w (AddPost (r, e) w) := by rw [← hr]; exact take_any A n c p B m d l w h hn hA g hm
theorem bcheck_is (r : Int) (A : Option Addr) (n c : Nat) (l : List Bk) (w : World) (h : Bks w A n l) (hn : n ≤ maxLen) (hr : Book.chkE l = r) :
    Calls Try.prog 37 #[.slice A n c] w (Ret (.int .i64 r) w) := by rw [← hr]; exact bcheck_any A n c l w h hn
theorem bsame_is (r : Bool) (A B : Option Addr) (n m c d : Nat) (p q : List Bk) (w : World) (h : Bks w A n p) (g : Bks w B m q) (hn : n ≤ maxLen) (hm : m ≤ maxLen) (hr : decide (p = q) = r) :
    Calls Try.prog 43 #[.slice A n c, .slice B m d] w (Drew (.bool r) w) := by rw [← hr]; exact bsame_any A B n m c d p q w h g hn hm
theorem bfew_any (A : Option Addr) (n c : Nat) (w : World) : Calls Try.prog 28 #[.slice A n c] w fun e w' => e = .returned (.bool (decide ((n : Int) ≤ 100))) ∧ w = w' := by
  go_enter Try.func28, Try.ntmps28
  go_wp2_with fail
  go_ret
  exact ⟨rfl, rfl⟩
theorem bfew_is (r : Bool) (A : Option Addr) (n c : Nat) (w : World) (h : decide ((n : Int) ≤ 100) = r) : Calls Try.prog 28 #[.slice A n c] w fun e w' => e = .returned (.bool r) ∧ w = w' := by rw [← h]; exact bfew_any A n c w
abbrev BK : Bk := ⟨2, 5, 9, 3⟩
set_option maxHeartbeats 2000000 in
set_option maxRecDepth 100000 in
theorem bawake_any (w : World) : Calls Try.prog 29 #[] w fun e w' => e = .returned (.bool true) ∧ Below w.heap.size w w' := by
  go_enter Try.func29, Try.ntmps29
  go_wp2_with fail
  refine (badd_is [BK] 0 none 0 0 [] BK w (Lst.nil _ _ _ _) (by simp [maxLen]) (fun _ => rfl) (by decide +kernel)).mono ?_
  rintro e w1 ⟨A1, c1, rfl, o1, b1⟩
  go_wp2_with fail
  refine (badd_is [] 190 A1 _ c1 [BK] BK w1 (o1.lst layB) (SOwn.max o1) o1.2.bare (by decide +kernel)).mono ?_
  rintro e w2 ⟨A2, c2, rfl, o2, b2⟩
  have b02 := below_step b1 b2
  have H2 := Lib.hid ((o1.below b2).lst layB)
  have HM := Lib.hid (SOwn.max o1)
  have HB := Lib.hid o1.2.bare
  clear o1 o2 b1 b2
  simp only [List.length_cons, List.length_nil, Nat.zero_add] at *
  go_wp2_with fail
  obtain ⟨V, hV⟩ : ∃ V, V = w2.alloc (.cells #[.int .i64 0, .int .i64 4] 77) := ⟨_, rfl⟩
  rw [← hV]
  have bV : Below w2.heap.size w2 V := by rw [hV]; exact (Below.refl _ _).alloc (Nat.le_refl _) _
  have sV : ProfW.Steps V (some ⟨w2.heap.size, 0, none⟩) 1 [(0, 4)] := by rw [hV]; exact Lst.new layS w2 (0, 4) #[.int .i64 0, .int .i64 4] 77 rfl
  clear hV
  refine (take_is [(0, 4), (5, 1), (9, 4)] 0 _ 1 _ [(0, 4)] A1 1 c1 [BK] V sV (by simp [maxLen]) (fun h => by cases h) (H2.out.below bV) HM.out (by decide +kernel)).mono ?_
  rintro e w3 ⟨A3, c3, rfl, o3, b3⟩
  have b23 := below_step bV b3
  have b03 := below_step b02 b23
  have HP := Lib.hid o3
  clear sV o3 bV b3
  simp only [List.length_cons, List.length_nil, Nat.zero_add] at *
  go_wp2_with fail
  obtain ⟨U, hU⟩ : ∃ U, U = w3.alloc (.cells #[.int .i64 2] 3) := ⟨_, rfl⟩
  rw [← hU]
  have bU : Below w3.heap.size w3 U := by rw [hU]; exact (Below.refl _ _).alloc (Nat.le_refl _) _
  have sU : Ints U (some ⟨w3.heap.size, 0, none⟩) 1 [2] := by rw [hU]; exact Lst.new layI w3 2 #[.int .i64 2] 3 rfl
  clear hU
  have b2U := below_step b23 bU
  refine (drop_is [] 0 A1 1 c1 [BK] _ 1 _ [2] U (H2.out.below b2U) HM.out HB.out sU (by simp [maxLen]) (by decide +kernel)).mono ?_
  rintro e w4 ⟨A4, c4, rfl, o4, b4⟩
  have b24 := below_step b2U b4
  have b34 := below_step bU b4
  clear o4 sU b2U bU b4
  simp only [List.length_cons, List.length_nil, Nat.zero_add] at *
  go_wp2_with fail
  obtain ⟨U, hU⟩ : ∃ U, U = w4.alloc (.cells #[.int .i64 3] 3) := ⟨_, rfl⟩
  rw [← hU]
  have bU : Below w4.heap.size w4 U := by rw [hU]; exact (Below.refl _ _).alloc (Nat.le_refl _) _
  have sU : Ints U (some ⟨w4.heap.size, 0, none⟩) 1 [3] := by rw [hU]; exact Lst.new layI w4 3 #[.int .i64 3] 3 rfl
  clear hU
  have b2U := below_step b24 bU
  refine (drop_is [] 190 A1 1 c1 [BK] _ 1 _ [3] U (H2.out.below b2U) HM.out HB.out sU (by simp [maxLen]) (by decide +kernel)).mono ?_
  rintro e w5 ⟨A5, c5, rfl, o5, b5⟩
  have b25 := below_step b2U b5
  have b35 := below_step b34 (below_step bU b5)
  clear o5 sU b2U bU b5 b24 b34
  have h5 := (HP.out.below b35).lst layS
  obtain ⟨b, off, s, rfl, hbl, hs, d0, d1⟩ := Lst.two h5 (show 1 < 3 by omega)
  obtain rfl : s = (5, 1) := by simpa using hs.symm
  clear h5 hs hbl
  simp only [List.length_cons, List.length_nil, Nat.zero_add] at *
  go_wp2_with fail
  refine (past_is [BK] A1 1 c1 [BK] 8 w5 (H2.out.below b25) HM.out HB.out (by decide +kernel)).mono ?_
  rintro e w6 ⟨A6, c6, rfl, o6, b6⟩
  have b26 := below_step b25 b6
  clear o6 b6 b25 d0 d1
  simp only [List.length_cons, List.length_nil, Nat.zero_add] at *
  go_wp2_with fail
  refine (past_is [] A1 1 c1 [BK] 9 w6 (H2.out.below b26) HM.out HB.out (by decide +kernel)).mono ?_
  rintro e w7 ⟨A7, c7, rfl, o7, b7⟩
  have b27 := below_step b26 b7
  clear o7 b7 b26
  simp only [List.length_cons, List.length_nil, Nat.zero_add] at *
  go_wp2_with fail
  obtain ⟨U, hU⟩ : ∃ U, U = w7.alloc (.cells #[.int .i64 0, .int .i64 0, .int .i64 0, .int .i64 0] 42) := ⟨_, rfl⟩
  rw [← hU]
  have bU : Below w7.heap.size w7 U := by rw [hU]; exact (Below.refl _ _).alloc (Nat.le_refl _) _
  have sU : Bks U (some ⟨w7.heap.size, 0, none⟩) 1 [⟨0, 0, 0, 0⟩] := by rw [hU]; exact Lst.new layB w7 ⟨0, 0, 0, 0⟩ #[.int .i64 0, .int .i64 0, .int .i64 0, .int .i64 0] 42 rfl
  clear hU
  refine (bcheck_is 190 _ 1 _ _ U sU (by simp [maxLen]) (by decide +kernel)).mono ?_
  rintro e w8 ⟨rfl, b8⟩
  have b28 := below_step (below_step b27 bU) b8
  clear sU bU b8 b27
  go_wp2_with fail
  refine (bsame_is true A1 A1 1 1 c1 c1 [BK] [BK] w8 (H2.out.below b28) (H2.out.below b28) HM.out HM.out (by decide +kernel)).mono ?_
  rintro e w9 ⟨rfl, dr, rfl⟩
  go_wp2_with fail
  go_ret
  exact ⟨rfl, below_drewN (below_step b02 b28) dr⟩
end Go.Proofs.Ythfnmighhoighaa.BookW
