/-
  The walk of PackForms: true for every argument; nothing that was there is changed.
-/
import Derived.Test.YtgmoakbmomaffaaPackLaw2
namespace Go.Proofs.Ytgmoakbmomaffaa.PackW
open Go.RowKit Mem
set_option linter.unusedVariables false

theorem str_eq_not (x y : ByteArray) (h : x = y) : (!(x.toList == y.toList)) = false := by rw [h]; simp
theorem texts_str (r : List UInt8) (x : Int) (A : Option Addr) (n c : Nat) (l : List ByteArray) (w : World) (h : Strs w A n l) (hr : Pack.texts (l.map (·.data.toList)) = (r, x)) (hn : n ≤ maxLen) (hs : ∀ s ∈ l, s.size ≤ maxLen) :
    Calls Try.prog 28 #[.slice A n c] w fun e w' => e = .returned (.tuple #[.string (str r), .int .i64 x]) ∧ Below w.heap.size w w' := by
  have := texts_any A n c l w h hn hs
  rw [hr] at this
  exact this
theorem strs_of_txs {w : World} {A : Option Addr} {n : Nat} {l : List (List UInt8)} (h : Txs w A n l) : Strs w A n (l.map str) := by
  unfold Strs
  have e : (l.map str).map Value.string = sv l := by simp [sv]
  rw [e]
  exact h
theorem map_str (l : List (List UInt8)) : (l.map str).map (·.data.toList) = l := by
  rw [List.map_map]
  exact List.map_id l

set_option maxHeartbeats 2000000 in
set_option maxRecDepth 100000 in
theorem packForms_walk (s : ByteArray) (a k : Int) (w : World) (hs : s.size ≤ maxLen) (a0 : -9223372036854775808 ≤ a) :
    Calls Try.prog 10 #[.string s, .int .i64 a, .int .i64 k] w fun e w' => e = .returned (.bool true) ∧ Below w.heap.size w w' := by
  have hs' := hs
  unfold maxLen at hs'
  by_cases h1 : 10000 < s.size
  · go_enter Try.func10, Try.ntmps10
    go_wp2_with fail
    refine (awake_any _).mono ?_
    rintro e w1 ⟨rfl, hb1⟩
    go_wp2_with fail
    go_ret
    exact ⟨rfl, hb1⟩
  · obtain ⟨n, to, e, hT⟩ : ∃ n to e, Pack.takeNum s.data.toList a k = (n, to, e) := ⟨_, _, _, rfl⟩
    obtain ⟨l, u, x, hU⟩ : ∃ l u x, Pack.takeTexts s.data.toList a = (l, u, x) := ⟨_, _, _, rfl⟩
    have HN := Lib.hid (takeNum_is n to e s a k w hT hs)
    have HL := Lib.hid (fun w => takeTexts_is l u x s a w hU hs)
    by_cases hx : x = 0
    · subst hx
      obtain ⟨ua, ub, uc, ud, ue, uf⟩ := Pack.takeTexts_ok hU
      have hsz' : s.data.toList.length = s.size := by simp
      rw [hsz'] at uc
      obtain ⟨a', rfl⟩ := Int.eq_ofNat_of_zero_le ua
      obtain ⟨u', rfl⟩ := Int.eq_ofNat_of_zero_le (show 0 ≤ u by omega)
      rw [Int.toNat_natCast, Int.toNat_natCast, ← Lib.extract_data, ← map_str l] at uf
      have HTx := Lib.hid uf
      have HAl : Hid (∀ y ∈ l.map str, y.size ≤ maxLen) := by
        show ∀ y ∈ l.map str, _
        intro y hy
        obtain ⟨z, hz, rfl⟩ := List.mem_map.1 hy
        have := ue z hz
        rw [str_size]
        simp only [maxLen]
        omega
      clear uf ue hU ud hsz'
      by_cases he : e = 0
      · subst he
        obtain ⟨ha, hk, ht1, ht2, hn1, hn2, hl⟩ := Pack.takeNum_ok hT
        have hb := Pack.isW_bd hk
        have hnum := Pack.number_of hT
        have hsz : s.data.toList.length = s.size := by simp
        rw [hsz] at ht2
        obtain ⟨to', rfl⟩ := Int.eq_ofNat_of_zero_le (show 0 ≤ to by omega)
        have hlt : a' ≤ to' := by omega
        have hn0 : 0 ≤ n := by rw [hn1]; omega
        rw [Int.toNat_natCast, Int.toNat_natCast, ← Lib.extract_data] at hnum
        have HM := Lib.hid (fun w => number_str _ 0 n k w hnum (by omega) hn2)
        rw [str_of] at HM
        clear hT hnum hl hn1 hsz ht1
        go_enter Try.func10, Try.ntmps10
        go_wp2_with fail
        refine HN.out.mono ?_
        rintro e w1 ⟨rfl, rfl⟩
        go_wp2_with fail
        refine (HM.out _).mono ?_
        rintro e w1 ⟨rfl, b1⟩
        go_wp2_with fail
        refine (HL.out _).mono ?_
        rintro e w2 ⟨A2, c2, rfl, ho2, hb2⟩
        have b2 := below_step b1 hb2
        have o2 := OwnC.of_own ho2
        have m2 := ownc_max o2
        have p2 := strs_of_txs (Txs.of_ownc o2)
        clear b1 hb2 ho2 o2
        go_wp2_with fail
        refine (texts_str _ 0 _ _ _ _ _ p2 HTx.out m2 HAl.out).mono ?_
        rintro e w3 ⟨rfl, hb3⟩
        have b3 := below_step b2 hb3
        clear b2 hb3 p2
        rw [str_of]
        go_wp2_with fail
        refine (awake_any _).mono ?_
        rintro e w8 ⟨rfl, hb8⟩
        go_wp2_with fail
        go_ret
        exact ⟨rfl, below_step b3 hb8⟩
      · have he1 : (e == 0) = false := by simpa using he
        clear he hT
        go_enter Try.func10, Try.ntmps10
        go_wp2_with fail
        refine HN.out.mono ?_
        rintro e w1 ⟨rfl, rfl⟩
        have b1 := Below.refl w.heap.size w
        go_wp2_with fail
        refine (HL.out _).mono ?_
        rintro e w2 ⟨A2, c2, rfl, ho2, hb2⟩
        have b2 := below_step b1 hb2
        have o2 := OwnC.of_own ho2
        have m2 := ownc_max o2
        have p2 := strs_of_txs (Txs.of_ownc o2)
        clear b1 hb2 ho2 o2
        go_wp2_with fail
        refine (texts_str _ 0 _ _ _ _ _ p2 HTx.out m2 HAl.out).mono ?_
        rintro e w3 ⟨rfl, hb3⟩
        have b3 := below_step b2 hb3
        clear b2 hb3 p2
        rw [str_of]
        go_wp2_with fail
        refine (awake_any _).mono ?_
        rintro e w8 ⟨rfl, hb8⟩
        go_wp2_with fail
        go_ret
        exact ⟨rfl, below_step b3 hb8⟩
    · have hx1 : (x == 0) = false := by simpa using hx
      clear hx hU
      by_cases he : e = 0
      · subst he
        obtain ⟨ha, hk, ht1, ht2, hn1, hn2, hl⟩ := Pack.takeNum_ok hT
        have hb := Pack.isW_bd hk
        have hnum := Pack.number_of hT
        have hsz : s.data.toList.length = s.size := by simp
        rw [hsz] at ht2
        obtain ⟨a', rfl⟩ := Int.eq_ofNat_of_zero_le ha
        obtain ⟨to', rfl⟩ := Int.eq_ofNat_of_zero_le (show 0 ≤ to by omega)
        have hlt : a' ≤ to' := by omega
        have hn0 : 0 ≤ n := by rw [hn1]; omega
        rw [Int.toNat_natCast, Int.toNat_natCast, ← Lib.extract_data] at hnum
        have HM := Lib.hid (fun w => number_str _ 0 n k w hnum (by omega) hn2)
        rw [str_of] at HM
        clear hT hnum hl hn1 hsz ht1
        go_enter Try.func10, Try.ntmps10
        go_wp2_with fail
        refine HN.out.mono ?_
        rintro e w1 ⟨rfl, rfl⟩
        go_wp2_with fail
        refine (HM.out _).mono ?_
        rintro e w1 ⟨rfl, b1⟩
        go_wp2_with fail
        refine (HL.out _).mono ?_
        rintro e w2 ⟨A2, c2, rfl, ho2, hb2⟩
        have b2 := below_step b1 hb2
        clear b1 hb2 ho2
        go_wp2_with fail
        refine (awake_any _).mono ?_
        rintro e w8 ⟨rfl, hb8⟩
        go_wp2_with fail
        go_ret
        exact ⟨rfl, below_step b2 hb8⟩
      · have he1 : (e == 0) = false := by simpa using he
        clear he hT
        go_enter Try.func10, Try.ntmps10
        go_wp2_with fail
        refine HN.out.mono ?_
        rintro e w1 ⟨rfl, rfl⟩
        have b1 := Below.refl w.heap.size w
        go_wp2_with fail
        refine (HL.out _).mono ?_
        rintro e w2 ⟨A2, c2, rfl, ho2, hb2⟩
        have b2 := below_step b1 hb2
        clear b1 hb2 ho2
        go_wp2_with fail
        refine (awake_any _).mono ?_
        rintro e w8 ⟨rfl, hb8⟩
        go_wp2_with fail
        go_ret
        exact ⟨rfl, below_step b2 hb8⟩
end Go.Proofs.Ytgmoakbmomaffaa.PackW
