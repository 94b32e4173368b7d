/-
  FrameBack: the law's walk.
-/
import Derived.Test.YtgmoakbmomaffaaFrameAwake
import Derived.Test.YtgmoakbmomaffaaFrameOpen
namespace Go.Proofs.Ytgmoakbmomaffaa.FrameW
open Go.RowKit Mem Frm PackW
set_option linter.unusedVariables false
set_option linter.unusedSimpArgs false

theorem back_str (S : List UInt8) : (⟨#[98, 101, 102, 111, 114, 101]⟩ ++ str S ++ ⟨#[98, 101, 104, 105, 110, 100]⟩ : ByteArray).data.toList = [98, 101, 102, 111, 114, 101] ++ (S ++ [98, 101, 104, 105, 110, 100]) := by simp [str]
set_option maxHeartbeats 4000000 in
set_option maxRecDepth 100000 in
theorem fback_any (life seq : Int) (e : Ev) (w : World) (l0 : -9223372036854775808 ≤ life ∧ life ≤ 9223372036854775807) (q0 : -9223372036854775808 ≤ seq ∧ seq ≤ 9223372036854775807) (hln : e.ln.length ≤ maxLen) :
    Calls Try.prog 13 #[.int .i64 life, .int .i64 seq, evV e] w (TrueB w) := by
  have HAw := Lib.hid fawake_any
  obtain ⟨V, hV⟩ : ∃ V, V = w.alloc (evO e) := ⟨_, rfl⟩
  have bV : Below w.heap.size w V := by rw [hV]; exact (Below.refl _ _).alloc (Nat.le_refl _) _
  have kE : Blk V w.heap.size 73 (evC e) := by rw [hV]; exact Blk.new _ _ _
  obtain ⟨x0, x1, x2, x3, x4, x5⟩ := blk6 kE
  have hz : (str e.ln).size = e.ln.length := str_size _
  by_cases hbig : 10000 < e.ln.length
  · have t1 : decide ((10000 : Int) < ((str e.ln).size : Int)) = true := decide_eq_true (by omega)
    clear hbig hln hz
    go_enter Try.func13, Try.ntmps13
    go_upto_region 1 with fail
    rw [← hV]
    clear hV
    go_wp2_with fail
    refine (HAw.out _).mono ?_
    rintro en w1 ⟨rfl, b1⟩
    go_wp2_with fail
    go_ret
    exact ⟨rfl, below_step bV b1⟩
  have t1 : decide ((10000 : Int) < ((str e.ln).size : Int)) = false := decide_eq_false (by omega)
  have hl : e.ln.length ≤ 1000000 := by omega
  have HL := Lib.hid fun w => lay_any e w hl
  cases hb : evB e
  · have HC := Lib.hid fun w => echeck_is 320 e w hl (evE_no hb)
    rw [lay_no hb] at HL
    have e1 : ((str []).toList == []) = true := by rw [str_list]; rfl
    have e1' := str_nil
    clear hbig hln hz hb hl
    go_enter Try.func13, Try.ntmps13
    go_upto_region 1 with fail
    rw [← hV]
    clear hV
    go_wp2_with fail
    refine (HL.out _).mono ?_
    rintro en w1 ⟨rfl, b1⟩
    have k1 := kE.below b1 kE.lt
    clear x0 x1 x2 x3 x4 x5
    obtain ⟨x0, x1, x2, x3, x4, x5⟩ := blk6 k1
    go_wp2_with fail
    refine (HC.out _).mono ?_
    rintro en w2 ⟨rfl, b2⟩
    go_wp2_with fail
    refine (HAw.out _).mono ?_
    rintro en w3 ⟨rfl, b3⟩
    go_wp2_with fail
    go_ret
    exact ⟨rfl, below_step bV (below_step (below_step b1 b2) b3)⟩
  obtain ⟨B, x, hlay⟩ : ∃ B x, lay e = (B, x) := pair_of _
  have hx : x = 0 := by have := lay_yes hb; rw [hlay] at this; exact (Prod.ext_iff.1 this).2
  subst hx
  rw [hlay] at HL
  have hBl : B.length ≤ 1003 := by have := lay_len (e := e); rw [hlay] at this; exact this
  have htk : take B = (e, 0) := by have := lay_take hb; rw [hlay] at this; exact this
  have HTk := Lib.hid fun w => take_is e 0 (str B) w (by rw [str_size]; omega) htk
  have hPB : ¬ 200000 < B.length := by omega
  have HP := Lib.hid fun w => put_any life seq (str B) w (by rw [str_size]; unfold maxLen; omega) l0 q0
  have hz2 : (str B).size ≤ 1003 := by rw [str_size]; exact hBl
  have hne : B ≠ [] := by
    have := lay_yes hb
    rw [hlay] at this
    have h1 := (Prod.ext_iff.1 this).1
    simp only at h1
    intro h2
    rw [h2] at h1
    have := congrArg List.length h1
    simp [Pack.be_length] at this
    omega
  rw [str_data] at HP
  cases hf : (Pack.fitB life 4 && Pack.fitB seq 4)
  · rw [put_arg hf] at HP
    have e1 : ((str []).toList == []) = true := by rw [str_list]; rfl
    have e1' := str_nil
    clear hbig hln hz hb hl hlay htk hPB hne hf
    go_enter Try.func13, Try.ntmps13
    go_upto_region 1 with fail
    rw [← hV]
    clear hV
    go_wp2_with fail
    refine (HL.out _).mono ?_
    rintro en w1 ⟨rfl, b1⟩
    have k1 := kE.below b1 kE.lt
    clear x0 x1 x2 x3 x4 x5
    obtain ⟨x0, x1, x2, x3, x4, x5⟩ := blk6 k1
    go_wp2_with fail
    refine (HTk.out _).mono ?_
    rintro en w2 ⟨rfl, b2⟩
    have k2 := (k1.below b2 k1.lt).alloc (evO e)
    have kN : Blk (w2.alloc (evO e)) w2.heap.size 73 (evC e) := Blk.new _ _ _
    clear x0 x1 x2 x3 x4 x5
    obtain ⟨x0, x1, x2, x3, x4, x5⟩ := blk6 k2
    obtain ⟨y0, y1, y2, y3, y4, y5⟩ := blk6 kN
    have b02 := below_step (below_step b1 b2) (new_1 w2 (evO e))
    go_wp2_with fail
    refine (HP.out _).mono ?_
    rintro en w3 ⟨rfl, b3⟩
    go_wp2_with fail
    refine (HAw.out _).mono ?_
    rintro en w4 ⟨rfl, b4⟩
    go_wp2_with fail
    go_ret
    exact ⟨rfl, below_step bV (below_step (below_step b02 b3) b4)⟩
  · have hok := put_ok (life := life) (seq := seq) hf hPB
    have hgt := put_get (p := [98, 101, 102, 111, 114, 101]) (q := [98, 101, 104, 105, 110, 100]) hf hPB
    obtain ⟨T, y, hput⟩ : ∃ T y, put life seq B = (T, y) := pair_of _
    have hy : y = 0 := by rw [hput] at hok; exact (Prod.ext_iff.1 hok).2
    have hTl : T.length ≤ 1100 := by
      rw [hput] at hok
      have h1 := (Prod.ext_iff.1 hok).1
      simp only at h1
      rw [h1, List.length_append, hd_len, sumL_len]
      omega
    subst hy
    rw [hput] at hgt HP
    simp only at hgt HP
    have hTs : (str T).size = T.length := str_size T
    have hz3 : (str T).size ≤ 1100 := by omega
    have HGt : Hid (∀ w, Calls Try.prog 40 #[.string (⟨#[98, 101, 102, 111, 114, 101]⟩ ++ str T ++ ⟨#[98, 101, 104, 105, 110, 100]⟩), .int .i64 6] w (Ret (.tuple #[.int .i64 life, .int .i64 seq, .string (str B), .int .i64 (6 + ((str T).size : Int)), .int .i64 0]) w)) := fun w => by
      refine (get_is (life, seq, B, 6 + ((str T).size : Int), 0) _ 6 w ?_ ?_)
      · rw [ByteArray.size_append, ByteArray.size_append, hTs]
        unfold maxLen
        simp [ByteArray.size]
        omega
      · rw [back_str, hTs]
        exact hgt
    obtain ⟨U, hU⟩ : ∃ U, U = str T := ⟨_, rfl⟩
    obtain ⟨Y, hY⟩ : ∃ Y, Y = str B := ⟨_, rfl⟩
    rw [← hU] at HGt HP hz3
    rw [← hY] at HGt HP HTk HL hz2
    have e2 : (life == life) = true := by simp
    have e3 : (seq == seq) = true := by simp
    have e4 : (Y.toList == Y.toList) = true := by simp
    have e5 : ((6 : Int) + (U.size : Int) == 6 + (U.size : Int)) = true := by simp
    have w6 : IntKind.i64.wrap ((6 : Int) + (U.size : Int)) = 6 + (U.size : Int) := IntWalk.i64_in _ (by omega)
    clear hbig hln hz hb hl hlay htk hPB hne hf hok hgt hput hTl hTs hU hY
    go_enter Try.func13, Try.ntmps13
    go_upto_region 1 with fail
    rw [← hV]
    clear hV
    go_wp2_with fail
    refine (HL.out _).mono ?_
    rintro en w1 ⟨rfl, b1⟩
    have k1 := kE.below b1 kE.lt
    clear x0 x1 x2 x3 x4 x5
    obtain ⟨x0, x1, x2, x3, x4, x5⟩ := blk6 k1
    go_wp2_with fail
    refine (HTk.out _).mono ?_
    rintro en w2 ⟨rfl, b2⟩
    have k2 := (k1.below b2 k1.lt).alloc (evO e)
    have kN : Blk (w2.alloc (evO e)) w2.heap.size 73 (evC e) := Blk.new _ _ _
    clear x0 x1 x2 x3 x4 x5
    obtain ⟨x0, x1, x2, x3, x4, x5⟩ := blk6 k2
    obtain ⟨y0, y1, y2, y3, y4, y5⟩ := blk6 kN
    have b02 := below_step (below_step b1 b2) (new_1 w2 (evO e))
    go_wp2_with fail
    refine (HP.out _).mono ?_
    rintro en w3 ⟨rfl, b3⟩
    go_wp2_with fail
    refine (HGt.out _).mono ?_
    rintro en w4 ⟨rfl, b4⟩
    go_wp2_with fail
    refine (HAw.out _).mono ?_
    rintro en w5 ⟨rfl, b5⟩
    go_wp2_with fail
    go_ret
    exact ⟨rfl, below_step bV (below_step (below_step (below_step b02 b3) b4) b5)⟩
end Go.Proofs.Ytgmoakbmomaffaa.FrameW
