/-
  The walk of SumsTurned where the byte is another one.
-/
import Derived.Test.YtgmoakbmomaffaaSumsLaw2
namespace Go.Proofs.Ytgmoakbmomaffaa.SumsW
open Go.RowKit Mem
set_option linter.unusedVariables false

/-- '[]byte(s)' in one world -/
theorem to_bytes_at {P : Program} (src dst e : TypeId) (s : ByteArray) (hs : P.underlying src = some .string) (hd : P.underlying dst = some (.slice e)) (he : P.underlying e = some (.int .u8)) (W : World) :
    ∃ (c : Nat) (W' : World), (convert src dst (.string s)).run P W = .ok (.slice (some ⟨W.heap.size, 0, none⟩) s.size c) W' ∧ Below W.heap.size W W' ∧ s.size ≤ c ∧ Byts W' W.heap.size s.data.toList := by
  obtain ⟨cp, nx, h1, h2⟩ := to_bytes (P := P) src dst e s hs hd he
  exact ⟨cp W, nx W, h1 W, h2 W⟩

theorem set_split (s : ByteArray) (k : Nat) (hk : k < s.size) : s.data.toList = s.data.toList.take k ++ s[k] :: s.data.toList.drop (k + 1) := by
  have h : s.data.toList.drop k = s[k] :: s.data.toList.drop (k + 1) := List.drop_eq_getElem_cons (by simpa using hk)
  rw [← h, List.take_append_drop]
theorem sum_set (s : ByteArray) (k : Nat) (hk : k < s.size) (d : UInt8) (h : s[k] ≠ d) : Sums.more 1 (s.data.toList.set k d) ≠ Sums.more 1 s.data.toList := by
  have e1 : s.data.toList.set k d = s.data.toList.take k ++ d :: s.data.toList.drop (k + 1) := by
    rw [List.set_eq_take_append_cons_drop, if_pos (by simpa using hk)]
  rw [e1]
  conv => rhs; rw [set_split s k hk]
  exact fun e => Sums.turned _ _ _ _ h e.symm
theorem sum_swap (s : ByteArray) (k : Nat) (hk : k + 1 < s.size) (h : s[k] ≠ s[k + 1]) : Sums.more 1 ((s.data.toList.set k s[k + 1]).set (k + 1) s[k]) ≠ Sums.more 1 s.data.toList := by
  have e0 : s.data.toList = s.data.toList.take k ++ s[k] :: s[k + 1] :: s.data.toList.drop (k + 2) := by
    have h1 : s.data.toList.drop k = s[k] :: s.data.toList.drop (k + 1) := List.drop_eq_getElem_cons (by simpa using by omega)
    have h2 : s.data.toList.drop (k + 1) = s[k + 1] :: s.data.toList.drop (k + 2) := List.drop_eq_getElem_cons (by simpa using hk)
    rw [← h2, ← h1, List.take_append_drop]
  have hl : (s.data.toList.take k).length = k := by simp; omega
  generalize s.data.toList.take k = a at *
  generalize s.data.toList.drop (k + 2) = b at *
  generalize s[k] = x at *
  generalize s[k + 1] = y at *
  rw [e0]
  have e1 : ((a ++ x :: y :: b).set k y).set (k + 1) x = a ++ y :: x :: b := by
    subst hl
    simp
  rw [e1]
  exact fun e => Sums.swapped _ _ _ _ h e.symm

set_option maxHeartbeats 1000000 in
set_option maxRecDepth 100000 in
theorem turned_other (s : ByteArray) (k : Nat) (d : UInt8) (w : World) (hk : k < s.size) (hd : s[k] ≠ d) (hlg : longB [s] = false) :
    Calls Try.prog 6 #[.string s, .int .i64 k, .int .u8 (d.toNat : Int)] w fun e w' => e = .returned (.bool true) ∧ Below w.heap.size w w' := by
  have hs6 : s.size ≤ 60000 := (longB_no hlg).1 s (by simp)
  have HL := Lib.hid hlg
  clear hlg
  obtain ⟨V, hV⟩ : ∃ V, Sums.more 1 s.data.toList = V := ⟨_, rfl⟩
  obtain ⟨V1, hV1⟩ : ∃ V, Sums.more 1 (s.data.toList.set k d) = V := ⟨_, rfl⟩
  have hne1 : (V1 == V) = false := by
    rw [beq_eq_false_iff_ne, ← hV1, ← hV]; exact sum_set s k hk d hd
  have HV := Lib.hid hV
  have HV1 := Lib.hid hV1
  clear hV hV1
  have hnd : s[k].toNat ≠ d.toNat := fun e => hd (UInt8.toNat_inj.1 e)
  have hnb : ((s[k].toNat : Int) == (d.toNat : Int)) = false := by rw [beq_eq_false_iff_ne]; omega
  have hnb' : (s[k].toNat == d.toNat) = false := by rw [beq_eq_false_iff_ne]; exact hnd
  clear hnd hd
  obtain ⟨c1, W2, hrun1, hb1, hc1, hby1⟩ := to_bytes_at (P := Try.prog) 9 33 5 s Try.underlying9 Try.underlying33 Try.underlying5 (w.alloc (.cells #[.string s] 9))
  have hby2 := hby1.set (i := k) (by simpa using hk) d
  have hback := hby2.back (P := Try.prog) 33 9 5 c1 s.size (by simp) Try.underlying33 Try.underlying5 Try.underlying9
  obtain ⟨s1, hs1⟩ : ∃ s1 : ByteArray, s1 = ⟨(s.data.toList.set k d).toArray⟩ := ⟨_, rfl⟩
  have hs1d : s1.data.toList = s.data.toList.set k d := by rw [hs1]
  have hs1z : s1.size = s.size := by have := congrArg List.length hs1d; simpa using this
  rw [← hs1] at hback
  have HS1 := Lib.hid hs1d
  have HZ1 := Lib.hid hs1z
  clear hs1 hs1d hs1z
  obtain ⟨hcel, hfro⟩ := hby1.2 k s[k] (by simp [hk]; rfl)
  simp only [World.size_alloc] at hrun1 hback hcel hfro
  have b2 : Below w.heap.size w W2 := ((Below.refl _ _).alloc (Nat.le_refl _) _).trans (hb1.mono (by simp))
  have b3 := b2.setCell (p := ⟨w.heap.size + 1, k, none⟩) (by simp) (.int .u8 (d.toNat : Int))
  clear hby1 hby2 hb1
  go_enter Try.func6, Try.ntmps6
  go_wp2_with fail
  refine (long_no _ _ _ _ _ (strs_new1 _ _ _) (by simp [maxLen]) HL.out).mono ?_
  rintro e w1 ⟨rfl, rfl⟩
  go_wp2_with fail
  refine (sum_is V1 _ _ _ _ _ (strs_at1 _ _ _ _ (by simp)) (by simp only [List.map_cons, List.map_nil, Sums.sum]; rw [HS1.out]; exact HV1.out) (by simp [maxLen]) (by simp [maxLen]; rw [HZ1.out]; omega)).mono ?_
  rintro e w3 ⟨rfl, hb3⟩
  have b4 := below_step b3 ((Below.refl _ _).alloc (Nat.le_refl _) _ |>.trans (hb3.mono (by simp)))
  clear b3 hb3 hback hrun1 hcel hfro b2
  go_wp2_with fail
  refine (sum_is V _ _ _ _ _ (strs_at1 _ _ _ _ (by simp)) (by simp only [List.map_cons, List.map_nil, Sums.sum]; exact HV.out) (by simp [maxLen]) (by simp [maxLen]; omega)).mono ?_
  rintro e w4 ⟨rfl, hb4⟩
  have b5 := below_step b4 ((Below.refl _ _).alloc (Nat.le_refl _) _ |>.trans (hb4.mono (by simp)))
  clear b4 hb4
  obtain ⟨c2, W5, hrun2, hb5, hc2, hby5⟩ := to_bytes_at (P := Try.prog) 9 33 5 s Try.underlying9 Try.underlying33 Try.underlying5 w4
  have b6 := below_step b5 hb5
  have hz4 := b5.size
  clear hb5 b5
  obtain ⟨hcel, hfro⟩ := hby5.2 k s[k] (by simp [hk]; rfl)
  by_cases h1 : k + 1 < s.size
  · obtain ⟨hcel1, hfro1⟩ := hby5.2 (k + 1) s[k + 1] (by simp [h1]; rfl)
    by_cases h2 : s[k] = s[k + 1]
    · have h3 : ((s[k].toNat : Int) != (s[k + 1].toNat : Int)) = false := by rw [h2]; simp
      have h3' : (s[k].toNat != s[k + 1].toNat) = false := by rw [h2]; simp
      clear h2
      have h4 : decide ((k : Int) < (s.size : Int) - 1) = true := by simp; omega
      go_wp2_with fail
      go_quiet (fail)
      go_wp2_with fail
      refine (awake_any _).mono ?_
      rintro e w9 ⟨rfl, hb9⟩
      go_wp2_with fail
      go_ret
      exact ⟨rfl, below_step (below_drewN b6 _) hb9⟩
    · obtain ⟨V2, hV2⟩ : ∃ V, Sums.more 1 ((s.data.toList.set k s[k + 1]).set (k + 1) s[k]) = V := ⟨_, rfl⟩
      have hne2 : (V2 == V) = false := by
        rw [beq_eq_false_iff_ne, ← hV2, ← HV.out]; exact sum_swap s k h1 h2
      have hnd : s[k].toNat ≠ s[k + 1].toNat := fun e => h2 (UInt8.toNat_inj.1 e)
      have h3 : ((s[k].toNat : Int) != (s[k + 1].toNat : Int)) = true := by rw [bne_iff_ne]; omega
      have h3' : (s[k].toNat != s[k + 1].toNat) = true := by rw [bne_iff_ne]; exact hnd
      have HV2 := Lib.hid hV2
      clear h2 hnd hV2
      have h4 : decide ((k : Int) < (s.size : Int) - 1) = true := by simp; omega
      go_wp2_with fail
      go_quiet (fail)
      go_wp2_with fail
      go_region
      have hby6 := ((hby5.drewN (nq + 1)).set (i := k) (by simpa using hk) s[k + 1]).set (i := k + 1) (by simpa using h1) s[k]
      have hback := hby6.back (P := Try.prog) 33 9 5 c2 s.size (by simp) Try.underlying33 Try.underlying5 Try.underlying9
      obtain ⟨s2, hs2⟩ : ∃ s2 : ByteArray, s2 = ⟨((s.data.toList.set k s[k + 1]).set (k + 1) s[k]).toArray⟩ := ⟨_, rfl⟩
      have hs2d : s2.data.toList = (s.data.toList.set k s[k + 1]).set (k + 1) s[k] := by rw [hs2]
      have hs2z : s2.size = s.size := by have := congrArg List.length hs2d; simpa using this
      rw [← hs2] at hback
      have HS2 := Lib.hid hs2d
      have HZ2 := Lib.hid hs2z
      have b7 := ((below_drewN b6 (nq + 1)).setCell (p := ⟨w4.heap.size, k, none⟩) hz4 (.int .u8 (s[k + 1].toNat : Int))).setCell (p := ⟨w4.heap.size, k + 1, none⟩) hz4 (.int .u8 (s[k].toNat : Int))
      clear hs2 hs2d hs2z hby6
      go_wp2_with fail
      refine (sum_is V2 _ _ _ _ _ (strs_at1 _ _ _ _ (by simp)) (by simp only [List.map_cons, List.map_nil, Sums.sum]; rw [HS2.out]; exact HV2.out) (by simp [maxLen]) (by simp [maxLen]; rw [HZ2.out]; omega)).mono ?_
      rintro e w7 ⟨rfl, hb7⟩
      have b8 := below_step b7 ((Below.refl _ _).alloc (Nat.le_refl _) _ |>.trans (hb7.mono (by simp)))
      clear b7 hb7 hback
      go_wp2_with fail
      refine (sum_is V _ _ _ _ _ (strs_at1 _ _ _ _ (by simp)) (by simp only [List.map_cons, List.map_nil, Sums.sum]; exact HV.out) (by simp [maxLen]) (by simp [maxLen]; omega)).mono ?_
      rintro e w8 ⟨rfl, hb8⟩
      have b9 := below_step b8 ((Below.refl _ _).alloc (Nat.le_refl _) _ |>.trans (hb8.mono (by simp)))
      clear b8 hb8
      go_wp2_with fail
      refine (awake_any _).mono ?_
      rintro e w9 ⟨rfl, hb9⟩
      go_wp2_with fail
      go_ret
      exact ⟨rfl, below_step b9 hb9⟩
  · have h4 : decide ((k : Int) < (s.size : Int) - 1) = false := by simp; omega
    go_wp2_with fail
    go_quiet (fail)
    go_wp2_with fail
    refine (awake_any _).mono ?_
    rintro e w9 ⟨rfl, hb9⟩
    go_wp2_with fail
    go_ret
    exact ⟨rfl, below_step (below_drewN b6 _) hb9⟩

theorem sumsTurned_walk (s : ByteArray) (a c : Int) (w : World) (hs : s.size ≤ maxLen) (c0 : 0 ≤ c) (c1 : c ≤ 255) :
    Calls Try.prog 6 #[.string s, .int .i64 a, .int .u8 c] w fun e w' => e = .returned (.bool true) ∧ Below w.heap.size w w' := by
  cases hlg : longB [s]
  · by_cases h0 : a < 0
    · exact turned_out s a c w hs (.inr (.inl h0))
    · by_cases h1 : (s.size : Int) ≤ a
      · exact turned_out s a c w hs (.inr (.inr h1))
      · obtain ⟨k, rfl⟩ := Int.eq_ofNat_of_zero_le (show 0 ≤ a by omega)
        have hk : k < s.size := by omega
        obtain ⟨d, rfl⟩ : ∃ d : UInt8, c = (d.toNat : Int) := ⟨UInt8.ofNat c.toNat, by simp; omega⟩
        by_cases hd : s[k] = d
        · subst hd
          exact turned_same s k w hk hlg
        · exact turned_other s k d w hk hd hlg
  · exact turned_out s a c w hs (.inl hlg)
end Go.Proofs.Ytgmoakbmomaffaa.SumsW
