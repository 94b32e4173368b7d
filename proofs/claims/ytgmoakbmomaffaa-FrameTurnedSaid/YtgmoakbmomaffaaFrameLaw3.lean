/-
  FrameTurned: the law's walk.
-/
import Derived.Test.YtgmoakbmomaffaaFrameAwake
import Derived.Test.YtgmoakbmomaffaaFrameTurnPlain
import Derived.Test.YtgmoakbmomaffaaSumsLaw3
import Derived.Deep.DeepCutAuto
namespace Go.Proofs.Ytgmoakbmomaffaa.FrameW
open Go.RowKit Mem Frm PackW
set_option linter.unusedVariables false
set_option linter.unusedSimpArgs false

set_option maxHeartbeats 4000000 in
set_option maxRecDepth 100000 in
theorem fturned_byte (s : ByteArray) (a : Int) (d : UInt8) (w : World) (hs : s.size ≤ maxLen) :
    Calls Try.prog 14 #[.string s, .int .i64 a, .int .u8 (d.toNat : Int)] w (TrueB w) := by
  have HAw := Lib.hid fawake_any
  have hsl : s.data.toList.length = s.size := by simp
  by_cases hbig : 50000 < s.size
  · have t1 : decide ((50000 : Int) < (s.size : Int)) = true := decide_eq_true (by omega)
    clear hbig hs hsl
    go_enter Try.func14, Try.ntmps14
    go_wp2_with fail
    refine (HAw.out _).mono ?_
    rintro en w1 ⟨rfl, b1⟩
    go_wp2_with fail
    go_ret
    exact ⟨rfl, b1⟩
  have t1 : decide ((50000 : Int) < (s.size : Int)) = false := decide_eq_false (by omega)
  have HTk := Lib.hid (take_any s w (by omega))
  have HLy : Hid ((take s.data.toList).2 = 0 → lay (take s.data.toList).1 = (s.data.toList, 0)) := fun h => take_lay h
  have HEl : Hid ((take s.data.toList).1.ln.length ≤ 1000000) := by
    show _ ≤ _
    unfold take
    split
    · simp [ev0]
    · exact Nat.le_trans (guess_len _) (by omega)
  obtain ⟨e, x, htk⟩ : ∃ e x, take s.data.toList = (e, x) := pair_of _
  rw [htk] at HTk HLy HEl
  have hput : put 7 9 s.data.toList = (hd 7 9 s.data.toList ++ sumL (hd 7 9 s.data.toList), 0) := put_ok rfl (by omega)
  obtain ⟨S, hS⟩ : ∃ S, S = hd 7 9 s.data.toList ++ sumL (hd 7 9 s.data.toList) := ⟨_, rfl⟩
  rw [← hS] at hput
  have hSl : S.length = s.size + 17 := by rw [hS, List.length_append, hd_len, sumL_len, hsl]; omega
  have HP := Lib.hid fun w => put_is S 0 7 9 s w hs (by omega) (by omega) hput
  have HTurn : Hid (∀ k (hk : k < s.size), s[k] ≠ d → get (S.set (13 + k) d) 0 = bad 240) := fun k hk h => by
    rw [hS]
    exact turned_get (by rw [hsl]; exact hk) (by omega) h
  have hs5 : s.size ≤ 60000 := by omega
  have HSl := Lib.hid hSl
  have hzS : (str S).size = s.size + 17 := by rw [str_size]; exact hSl
  have HzS := Lib.hid hzS
  have hzS2 : (str S).size ≤ 100000 := by omega
  have HSe := Lib.hid (show s.toList = s.data.toList from ByteArray.toList_eq s)
  clear hbig hS hput hSl htk hzS hsl
  go_enter Try.func14, Try.ntmps14
  go_wp2_with fail
  refine HTk.out.mono ?_
  rintro en w1 ⟨rfl, b1⟩
  have kE : Blk (w1.alloc (evO e)) w1.heap.size 73 (evC e) := Blk.new _ _ _
  obtain ⟨x0, x1, x2, x3, x4, x5⟩ := blk6 kE
  have b2 : Below w.heap.size w (w1.alloc (evO e)) := below_step b1 (new_1 w1 _)
  go_upto_if 29 with fail
  go_cut [8] (fun X wx => X = .int .i64 x ∧ Below w.heap.size w wx)
  case first =>
    by_cases hx : x = 0
    · have HL1 := Lib.hid (lay_is s.data.toList 0 e (w1.alloc (evO e)) HEl.out (HLy.out hx))
      rw [str_of] at HL1
      have ex : (x == 0) = true := by simp [hx]
      have es : (s.toList == s.toList) = true := by simp
      clear hx
      go_wp2_with fail
      refine HL1.out.mono ?_
      rintro en w2 ⟨rfl, b3⟩
      go_wp2_with fail
      go_meet
      exact ⟨rfl, b2.trans (b3.mono b2.size)⟩
    · have ex : (x == 0) = false := by simpa using hx
      clear hx
      go_wp2_with fail
      go_meet
      exact ⟨rfl, b2⟩
  case rest =>
    obtain ⟨rfl, bc⟩ := hcut
    clear x0 x1 x2 x3 x4 x5 kE b2 b1
    by_cases ha : a < 0
    · go_wp2_with fail
      refine (HP.out _).mono ?_
      rintro en w2 ⟨rfl, b2⟩
      go_wp2_with fail
      refine (HAw.out _).mono ?_
      rintro en w3 ⟨rfl, b3⟩
      go_wp2_with fail
      go_ret
      exact ⟨rfl, below_step (below_step bc b2) b3⟩
    by_cases ha2 : (s.size : Int) ≤ a
    · have ha' : 0 ≤ a := by omega
      have t2 : decide ((s.size : Int) ≤ a) = true := decide_eq_true ha2
      go_wp2_with fail
      refine (HP.out _).mono ?_
      rintro en w2 ⟨rfl, b2⟩
      go_wp2_with fail
      refine (HAw.out _).mono ?_
      rintro en w3 ⟨rfl, b3⟩
      go_wp2_with fail
      go_ret
      exact ⟨rfl, below_step (below_step bc b2) b3⟩
    obtain ⟨k, rfl⟩ : ∃ k : Nat, a = (k : Int) := ⟨a.toNat, by omega⟩
    have hk : k < s.size := by omega
    have t2 : decide ((s.size : Int) ≤ (k : Int)) = false := decide_eq_false (by omega)
    have t3 : decide (s.size ≤ k) = false := decide_eq_false (by omega)
    have t4 : decide ((k : Int) < 0) = false := decide_eq_false (by omega)
    clear ha ha2
    by_cases hd : s[k] = d
    · have e1 : ((s[k].toNat : Int) == (d.toNat : Int)) = true := by rw [hd]; simp
      have e2 : (s[k].toNat == d.toNat) = true := by rw [hd]; simp
      clear hd
      go_wp2_with fail
      refine (HP.out _).mono ?_
      rintro en w2 ⟨rfl, b2⟩
      go_wp2_with fail
      refine (HAw.out _).mono ?_
      rintro en w3 ⟨rfl, b3⟩
      go_wp2_with fail
      go_ret
      exact ⟨rfl, below_step (below_step bc b2) b3⟩
    have hnd : s[k].toNat ≠ d.toNat := fun e => hd (UInt8.toNat_inj.1 e)
    have e1 : ((s[k].toNat : Int) == (d.toNat : Int)) = false := by rw [beq_eq_false_iff_ne]; omega
    have e2 : (s[k].toNat == d.toNat) = false := by rw [beq_eq_false_iff_ne]; exact hnd
    have HGt := Lib.hid fun w => get_is (bad 240) (str (S.set (13 + k) d)) 0 w (by rw [str_size, List.length_set, HSl.out]; unfold maxLen; omega) (HTurn.out k hk hd)
    clear hd hnd
    go_wp2_with fail
    refine (HP.out _).mono ?_
    rintro en w2 ⟨rfl, b2⟩
    have b02 := below_step bc b2
    obtain ⟨c1, W2, hrun1, hb1, hc1, hby1⟩ := SumsW.to_bytes_at (P := Try.prog) 9 33 5 (str S) Try.underlying9 Try.underlying33 Try.underlying5 w2
    have hby2 := hby1.set (i := 13 + k) (by rw [str_data, HSl.out]; omega) d
    rw [str_data] at hby2
    have hback := hby2.back (P := Try.prog) 33 9 5 c1 (str S).size (by rw [str_size]; simp) Try.underlying33 Try.underlying5 Try.underlying9
    obtain ⟨q, hq⟩ : ∃ q, S[13 + k]? = some q := ⟨_, List.getElem?_eq_getElem (by rw [HSl.out]; omega)⟩
    obtain ⟨hcel, hfro⟩ := hby1.2 (13 + k) q hq
    have b03 := below_step b02 hb1
    have b04 := b03.setCell (p := ⟨w2.heap.size, 13 + k, none⟩) b02.size (.int .u8 (d.toNat : Int))
    have w3 : IntKind.i64.wrap ((13 : Int) + (k : Int)) = (13 : Int) + (k : Int) := IntWalk.i64_in _ (by omega)
    have v3 : ((13 : Int) + (k : Int)).toNat = 13 + k := by omega
    have u3 : (((str S).size : Int) != (s.size : Int) + 17) = false := by have := HzS.out; simp; omega
    have g3 : (0 : Int) ≤ (13 : Int) + (k : Int) := by omega
    have g4 : (13 : Int) + (k : Int) < ((str S).size : Int) := by have := HzS.out; omega
    clear hby1 hby2 hq
    go_wp2_with fail
    refine (HGt.out _).mono ?_
    rintro en w5 ⟨rfl, b5⟩
    go_wp2_with fail
    refine (HAw.out _).mono ?_
    rintro en w6 ⟨rfl, b6⟩
    go_wp2_with fail
    go_ret
    exact ⟨rfl, below_step (below_step b04 b5) b6⟩
theorem fturned_any (s : ByteArray) (a c : Int) (w : World) (hs : s.size ≤ maxLen) (c0 : 0 ≤ c) (c1 : c ≤ 255) :
    Calls Try.prog 14 #[.string s, .int .i64 a, .int .u8 c] w (TrueB w) := by
  have h : ((UInt8.ofNat c.toNat).toNat : Int) = c := by
    rw [UInt8.toNat_ofNat']
    omega
  have := fturned_byte s a (UInt8.ofNat c.toNat) w hs
  rw [h] at this
  exact this
end Go.Proofs.Ytgmoakbmomaffaa.FrameW
