/-
  awake of layer 11.
-/
import Derived.Test.YtmjjbodglbdadaaFit5
namespace Go.Proofs.Ytmjjbodglbdadaa.ProfW
open Go.RowKit Mem Prof
set_option linter.unusedVariables false

def ap : List Stp := [(0, 4), (5, 1), (9, 4)]
theorem earl_r (v : Int) (A : Option Addr) (n c : Nat) (p : List Stp) (f0 long nodes : Int) (w : World) (h : Steps w A n p) (hn : n ≤ maxLen) (hr : earl p f0 long nodes = some v) :
    Calls Try.prog 27 #[.slice A n c, .int .i64 f0, .int .i64 long, .int .i64 nodes] w (Ret2 v true w) := by
  have := earl_any A n c p f0 long nodes w h hn
  unfold EarlPost at this
  rw [hr] at this
  exact this
theorem best_r (x : Nat) (v : Int) (b : Bool) (A : Option Addr) (n c : Nat) (p : List Stp) (B : Option Addr) (m d : Nat) (opts : List Stp) (fr latest gr0 : Int) (w : World) (h : Steps w A n p) (hn : n ≤ maxLen) (g : Steps w B m opts) (hm : m ≤ maxLen) (hd : m ≤ d) (h1 : (bestT p fr latest gr0 opts).ch = x) (h2 : (bestT p fr latest gr0 opts).st = v) (h3 : (bestT p fr latest gr0 opts).fd = b) :
    Calls Try.prog 33 #[.slice A n c, .slice B m d, .int .i64 fr, .int .i64 latest, .int .i64 gr0] w (BestPost ⟨x, v, b⟩ w) := by rw [← h1, ← h2, ← h3]; exact best_any A n c p B m d opts fr latest gr0 w h hn g hm hd
theorem take_r (r : List Stp) (e : Int) (A : Option Addr) (n c : Nat) (p : List Stp) (t long nodes : Int) (w : World) (h : Steps w A n p) (hn : n ≤ maxLen) (hc : n ≤ c) (hA : A = none → c = 0) (hr : takeT p t long nodes = (r, e)) :
    Calls Try.prog 29 #[.slice A n c, .int .i64 t, .int .i64 long, .int .i64 nodes] w (AddPost (r, e) w) := by rw [← hr]; exact take_any A n c p t long nodes w h hn hc hA
theorem fits_r (b : Bool) (A : Option Addr) (n c : Nat) (p : List Stp) (t long nodes : Int) (w : World) (h : Steps w A n p) (hn : n ≤ maxLen) (hr : fitsT p t long nodes = b) :
    Calls Try.prog 31 #[.slice A n c, .int .i64 t, .int .i64 long, .int .i64 nodes] w (Ret (.bool b) w) := by rw [← hr]; exact fits_p_any A n c p t long nodes w h hn
theorem ap_new (w : World) : Steps (w.alloc (.cells #[.int .i64 0, .int .i64 4, .int .i64 5, .int .i64 1, .int .i64 9, .int .i64 4] 43)) (some ⟨w.heap.size, 0, none⟩) 3 ap :=
  SOwn.lst layS (base := w.heap.size) (c := 3) ⟨rfl, OwnC.of_new w w.heap.size 2 43 #[.int .i64 0, .int .i64 4, .int .i64 5, .int .i64 1, .int .i64 9, .int .i64 4] 3 (Nat.le_refl _) (by simp [maxLen]) (by simp)⟩
theorem ao_new (w : World) : Steps (w.alloc (.cells #[.int .i64 4, .int .i64 6, .int .i64 1, .int .i64 14] 63)) (some ⟨w.heap.size, 0, none⟩) 2 [(4, 6), (1, 14)] :=
  SOwn.lst layS (base := w.heap.size) (c := 2) ⟨rfl, OwnC.of_new w w.heap.size 2 63 #[.int .i64 4, .int .i64 6, .int .i64 1, .int .i64 14] 2 (Nat.le_refl _) (by simp [maxLen]) (by simp)⟩
set_option maxHeartbeats 2000000 in
set_option maxRecDepth 100000 in
theorem awake11_any (w : World) : Calls Try.prog 26 #[] w fun e w' => e = .returned (.bool true) ∧ Below w.heap.size w w' := by
  obtain ⟨V, hV⟩ : ∃ V, V = w.alloc (.cells #[.int .i64 0, .int .i64 4, .int .i64 5, .int .i64 1, .int .i64 9, .int .i64 4] 43) := ⟨_, rfl⟩
  have bV : Below w.heap.size w V := by rw [hV]; exact (Below.refl _ _).alloc (Nat.le_refl _) _
  have hp : Steps V (some ⟨w.heap.size, 0, none⟩) 3 ap := by rw [hV]; exact ap_new w
  have HP := Lib.hid hp
  have HV := Lib.hid hV
  have hm3 : (3 : Nat) ≤ maxLen := by simp [maxLen]
  have HM3 := Lib.hid hm3
  clear hp hV hm3
  go_enter Try.func26, Try.ntmps26
  go_wp2_with fail
  rw [← HV.out]
  refine (earl_r 9 _ 3 3 ap 1 5 2 V HP.out HM3.out (by decide +kernel)).mono ?_
  rintro e w1 ⟨rfl, b1⟩
  go_wp2_with fail
  refine (earl_r 1 _ 3 3 ap 1 4 2 w1 (HP.out.below b1) HM3.out (by decide +kernel)).mono ?_
  rintro e w2 ⟨rfl, b2⟩
  have b3 := below_step b1 b2
  clear b1 b2
  go_wp2_with fail
  have bo := b3.alloc b3.size (.cells #[.int .i64 4, .int .i64 6, .int .i64 1, .int .i64 14] 63)
  refine (best_r 1 0 true _ 3 3 ap _ 2 2 [(4, 6), (1, 14)] 0 100 0 _ (HP.out.below bo) HM3.out (ao_new w2) (by simp [maxLen]) (Nat.le_refl _) (by decide +kernel) (by decide +kernel) (by decide +kernel)).mono ?_
  rintro e w3 ⟨rfl, b4⟩
  have b5 := below_step bo b4
  clear bo b4 b3
  go_wp2_with fail
  refine (take_r [(0, 4), (5, 0), (9, 4)] 0 _ 3 3 ap 5 4 1 w3 (HP.out.below b5) HM3.out (Nat.le_refl _) (by simp) (by decide +kernel)).mono ?_
  rintro e w4 ⟨A4, c4, rfl, ho4, b6⟩
  have b7 := below_step b5 b6
  clear b5 b6
  go_wp2_with fail
  refine (take_r [] 130 _ 3 3 ap 5 4 2 w4 (HP.out.below b7) HM3.out (Nat.le_refl _) (by simp) (by decide +kernel)).mono ?_
  rintro e w5 ⟨A5, c5, rfl, ho5, b8⟩
  have b9 := below_step b7 b8
  have h4 := (ho4.below b8).lst layS
  obtain ⟨bb, off, s, rfl, hbl, hs, d0, d1⟩ := Lst.two h4 (show 1 < [((0 : Int), (4 : Int)), (5, 0), (9, 4)].length by simp)
  obtain rfl : s = (5, 0) := by simpa using hs.symm
  simp only [List.length_cons, List.length_nil] at *
  clear ho4 ho5 hs h4 b7 b8
  go_wp2_with fail
  refine (fits_r true _ 3 3 ap 9 100 4 w5 (HP.out.below b9) HM3.out (by decide +kernel)).mono ?_
  rintro e w6 ⟨rfl, b10⟩
  go_wp2_with fail
  go_ret
  exact ⟨rfl, below_step bV (below_step b9 b10)⟩
end Go.Proofs.Ytmjjbodglbdadaa.ProfW
