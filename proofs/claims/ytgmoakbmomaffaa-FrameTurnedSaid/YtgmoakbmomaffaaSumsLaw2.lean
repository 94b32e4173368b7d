/-
  The walks of SumsParts and SumsTurned: true for every argument; nothing that was there is changed.
-/
import Derived.Test.YtgmoakbmomaffaaSumsLaw
import Derived.Test.YtgmoakbmomaffaaBytes
import Derived.Deep.RegionWith
import Derived.Deep.DrawnRows
namespace Go.Proofs.Ytgmoakbmomaffaa.SumsW
open Go.RowKit Mem
set_option linter.unusedVariables false

theorem strs_at1 (w : World) (s : ByteArray) (t : TypeId) (g : Nat) (hg : g = w.heap.size) : Strs (w.alloc (.cells #[.string s] t)) (some ⟨g, 0, none⟩) 1 [s] := by subst hg; exact strs_new1 w s t
theorem strs_at2 (w : World) (s r : ByteArray) (t : TypeId) (g : Nat) (hg : g = w.heap.size) : Strs (w.alloc (.cells #[.string s, .string r] t)) (some ⟨g, 0, none⟩) 2 [s, r] := by subst hg; exact strs_new2 w s r t

set_option maxHeartbeats 400000 in
theorem sumsParts_walk (s t : ByteArray) (w : World) (hs : s.size ≤ maxLen) (ht : t.size ≤ maxLen) :
    Calls Try.prog 5 #[.string s, .string t] w fun e w' => e = .returned (.bool true) ∧ Below w.heap.size w w' := by
  cases hlg : longB [s, t]
  · have hb := (longB_no hlg).1
    have hs6 : s.size ≤ 60000 := hb s (by simp)
    have ht6 : t.size ≤ 60000 := hb t (by simp)
    clear hb
    obtain ⟨V, hV⟩ : ∃ V, Sums.more 1 (s.data.toList ++ t.data.toList) = V := ⟨_, rfl⟩
    obtain ⟨Vs, hVs⟩ : ∃ V, Sums.more 1 s.data.toList = V := ⟨_, rfl⟩
    obtain ⟨Vt, hVt⟩ : ∃ V, Sums.more 1 t.data.toList = V := ⟨_, rfl⟩
    have bVs := Sums.more_bd 1 s.data.toList
    have bVt := Sums.more_bd 1 t.data.toList
    have hMore : Sums.more Vs t.data.toList = V := by rw [← hVs, ← hV, Sums.more_append]
    have hJoin : Sums.join Vs Vt (t.size : Int) = V := by
      rw [← hVs, ← hVt, ← hV, ← Sums.parts]; rfl
    rw [hVs] at bVs
    rw [hVt] at bVt
    have HV := Lib.hid hV
    have HVs := Lib.hid hVs
    have HVt := Lib.hid hVt
    have HM := Lib.hid hMore
    have HJ := Lib.hid hJoin
    have HL := Lib.hid hlg
    clear hV hVs hVt hMore hJoin hlg
    go_enter Try.func5, Try.ntmps5
    go_wp2_with fail
    refine (long_no _ _ _ _ _ (strs_new2 _ _ _ _) (by simp [maxLen]) HL.out).mono ?_
    rintro e w1 ⟨rfl, rfl⟩
    have b1 := (Below.refl _ w).alloc (Nat.le_refl _) (.cells #[.string s, .string t] 9)
    go_wp2_with fail
    refine (sum_is V _ _ _ _ _ (strs_at1 _ _ _ _ (by simp)) (by simp only [List.map_cons, List.map_nil, Sums.sum]; rw [← HV.out]; congr 1) (by simp [maxLen]) (by simp [maxLen]; omega)).mono ?_
    rintro e w2 ⟨rfl, hb2⟩
    have b2 := below_step b1 ((Below.refl _ _).alloc (Nat.le_refl _) _ |>.trans (hb2.mono (by simp)))
    clear b1 hb2
    go_wp2_with fail
    refine (sum_is V _ _ _ _ _ (strs_at2 _ _ _ _ _ (by simp)) (by simp only [List.map_cons, List.map_nil, Sums.sum]; rw [HVs.out]; exact HM.out) (by simp [maxLen]) (by simp [maxLen]; omega)).mono ?_
    rintro e w3 ⟨rfl, hb3⟩
    have b3 := below_step b2 ((Below.refl _ _).alloc (Nat.le_refl _) _ |>.trans (hb3.mono (by simp)))
    clear b2 hb3
    go_wp2_with fail
    refine (sum_is Vs _ _ _ _ _ (strs_at1 _ _ _ _ (by simp)) (by simp only [List.map_cons, List.map_nil, Sums.sum]; exact HVs.out) (by simp [maxLen]) (by simp [maxLen]; omega)).mono ?_
    rintro e w4 ⟨rfl, hb4⟩
    have b4 := below_step b3 ((Below.refl _ _).alloc (Nat.le_refl _) _ |>.trans (hb4.mono (by simp)))
    clear b3 hb4
    go_wp2_with fail
    refine (more_is V _ _ _ bVs.1 bVs.2 ht HM.out).mono ?_
    rintro e w5 ⟨rfl, hb5⟩
    have b5 := below_step b4 hb5
    clear b4 hb5
    go_wp2_with fail
    refine (sum_is Vs _ _ _ _ _ (strs_at1 _ _ _ _ (by simp)) (by simp only [List.map_cons, List.map_nil, Sums.sum]; exact HVs.out) (by simp [maxLen]) (by simp [maxLen]; omega)).mono ?_
    rintro e w6 ⟨rfl, hb6⟩
    have b6 := below_step b5 ((Below.refl _ _).alloc (Nat.le_refl _) _ |>.trans (hb6.mono (by simp)))
    clear b5 hb6
    go_wp2_with fail
    refine (sum_is Vt _ _ _ _ _ (strs_at1 _ _ _ _ (by simp)) (by simp only [List.map_cons, List.map_nil, Sums.sum]; exact HVt.out) (by simp [maxLen]) (by simp [maxLen]; omega)).mono ?_
    rintro e w7 ⟨rfl, hb7⟩
    have b7 := below_step b6 ((Below.refl _ _).alloc (Nat.le_refl _) _ |>.trans (hb7.mono (by simp)))
    clear b6 hb7
    go_wp2_with fail
    refine (join_is V _ _ _ _ HJ.out bVs.1 bVs.2 bVt.1 bVt.2 (by omega) (by omega)).mono ?_
    rintro e w8 ⟨rfl, hb8⟩
    have b8 := below_step b7 hb8
    clear b7 hb8
    go_wp2_with fail
    refine (awake_any _).mono ?_
    rintro e w9 ⟨rfl, hb9⟩
    go_wp2_with fail
    go_ret
    exact ⟨rfl, below_step b8 hb9⟩
  · go_enter Try.func5, Try.ntmps5
    go_wp2_with fail
    refine (long_yes _ _ _ _ _ (strs_new2 _ _ _ _) (by simp [maxLen]) hlg).mono ?_
    rintro e w1 ⟨rfl, rfl⟩
    go_wp2_with fail
    refine (awake_any _).mono ?_
    rintro e w3 ⟨rfl, hb3⟩
    go_wp2_with fail
    go_ret
    exact ⟨rfl, ((Below.refl _ _).alloc (Nat.le_refl _) _).trans (hb3.mono (by simp))⟩

theorem strs_of1 (w : World) (s : ByteArray) (g : Nat) (hc : w.cell? ⟨g, 0, none⟩ = some (.string s)) (hg : g < w.heap.size) : Strs w (some ⟨g, 0, none⟩) 1 [s] :=
  ⟨rfl, fun _ => ⟨g, 0, rfl, hg, fun i v hv => by
    match i with
    | 0 => simpa [hc] using hv
    | i + 1 => simp at hv⟩⟩

theorem turned_out (s : ByteArray) (a : Int) (c : Int) (w : World) (hs : s.size ≤ maxLen) (h : longB [s] = true ∨ a < 0 ∨ (s.size : Int) ≤ a) :
    Calls Try.prog 6 #[.string s, .int .i64 a, .int .u8 c] w fun e w' => e = .returned (.bool true) ∧ Below w.heap.size w w' := by
  cases hlg : longB [s]
  · have HL := Lib.hid hlg
    rw [hlg] at h
    have h' : a < 0 ∨ (s.size : Int) ≤ a := by simpa using h
    clear hlg h
    by_cases ha : a < 0
    all_goals
      go_enter Try.func6, Try.ntmps6
      go_wp2_with fail
      refine (long_no _ _ _ _ _ (strs_new1 _ _ _) (by simp [maxLen]) HL.out).mono ?_
      rintro e w1 ⟨rfl, rfl⟩
      go_wp2_with fail
      refine (awake_any _).mono ?_
      rintro e w3 ⟨rfl, hb3⟩
      go_wp2_with fail
      go_ret
      exact ⟨rfl, ((Below.refl _ _).alloc (Nat.le_refl _) _).trans (hb3.mono (by simp))⟩
  · clear h
    go_enter Try.func6, Try.ntmps6
    go_wp2_with fail
    refine (long_yes _ _ _ _ _ (strs_new1 _ _ _) (by simp [maxLen]) hlg).mono ?_
    rintro e w1 ⟨rfl, rfl⟩
    go_wp2_with fail
    refine (awake_any _).mono ?_
    rintro e w3 ⟨rfl, hb3⟩
    go_wp2_with fail
    go_ret
    exact ⟨rfl, ((Below.refl _ _).alloc (Nat.le_refl _) _).trans (hb3.mono (by simp))⟩

theorem cell_two (W : World) (s : ByteArray) (t : TypeId) (o : Obj) : (((W.alloc (.cells #[.string s] t)).alloc o).drew).cell? ⟨W.heap.size, 0, none⟩ = some (.string s) := by
  show ((W.alloc (.cells #[.string s] t)).alloc o).cell? ⟨W.heap.size, 0, none⟩ = _
  rw [((Blk.new W t #[.string s]).alloc o).cell 0]; rfl
theorem cell_two' (W : World) (s : ByteArray) (t : TypeId) (o : Obj) : (((W.alloc o).alloc (.cells #[.string s] t)).drew).cell? ⟨W.heap.size + 1, 0, none⟩ = some (.string s) := by
  have h := (Blk.new (W.alloc o) t #[.string s]).cell 0
  rw [World.size_alloc] at h
  show ((W.alloc o).alloc (.cells #[.string s] t)).cell? ⟨W.heap.size + 1, 0, none⟩ = _
  rw [h]; rfl
theorem bcell {W w1 : World} (hb : Below W.heap.size W w1) : ∀ b o, b < W.heap.size → w1.cell? ⟨b, o, none⟩ = W.cell? ⟨b, o, none⟩ := fun b o h => hb.cell (p := ⟨b, o, none⟩) h
attribute [local go_sem ↓] Go.wp_at_zero Go.wp_at_succ
set_option maxHeartbeats 1000000 in
set_option maxRecDepth 100000 in
theorem turned_same (s : ByteArray) (k : Nat) (w : World) (hk : k < s.size) (hlg : longB [s] = false) :
    Calls Try.prog 6 #[.string s, .int .i64 k, .int .u8 (s[k].toNat : Int)] w fun e w' => e = .returned (.bool true) ∧ Below w.heap.size w w' := by
  have hs6 : s.size ≤ 60000 := (longB_no hlg).1 s (by simp)
  have HL := Lib.hid hlg
  clear hlg
  obtain ⟨cp, nx, hrun, hprop⟩ := to_bytes (P := Try.prog) 9 33 5 s Try.underlying9 Try.underlying33 Try.underlying5
  have p1 := hprop (w.alloc (.cells #[.string s] 9))
  clear hprop
  obtain ⟨pb, pc, pby⟩ := p1
  have hc := (pby.2 k s[k] (by simp [hk]; rfl)).1
  rw [World.size_alloc] at hc
  go_enter Try.func6, Try.ntmps6
  go_wp2_with fail
  refine (long_no _ _ _ _ _ (strs_new1 _ _ _) (by simp [maxLen]) HL.out).mono ?_
  rintro e w1 ⟨rfl, rfl⟩
  go_wp2_with fail
  clear hrun
  rw [World.size_alloc] at pby
  have b0 : Below w.heap.size w (nx (w.alloc (.cells #[.string s] 9))) := ((Below.refl _ _).alloc (Nat.le_refl _) _).trans (pb.mono (by simp))
  generalize nx (w.alloc (.cells #[.string s] 9)) = W0 at *
  generalize cp (w.alloc (.cells #[.string s] 9)) = c0 at *
  clear pb pc hc
  have hgW : w.heap.size + 1 < W0.heap.size := pby.1
  have hdr : Byts W0.drew (w.heap.size + 1) s.data.toList := pby.drew
  have hal : ∀ o, Byts (W0.alloc o).drew (w.heap.size + 1) s.data.toList := fun o => (pby.alloc o).drew
  have hal2 : ∀ o o', Byts ((W0.alloc o).alloc o').drew (w.heap.size + 1) s.data.toList := fun o o' => ((pby.alloc o).alloc o').drew
  have hback : ∀ W, Byts W (w.heap.size + 1) s.data.toList → (convert 33 9 (.slice (some ⟨w.heap.size + 1, 0, none⟩) s.size c0)).run Try.prog W = .ok (.string s) W := fun W h => by
    have := h.back (P := Try.prog) 33 9 5 c0 s.size (by simp) Try.underlying33 Try.underlying5 Try.underlying9
    simpa using this
  obtain ⟨V, hV⟩ : ∃ V, Sums.more 1 s.data.toList = V := ⟨_, rfl⟩
  have HV := Lib.hid hV
  clear hV
  go_region_with (first
    | (go_at_call 17; refine (sum_is V _ _ _ _ _ (strs_of1 _ s _ ?_ ?_) HV.out (by simp [maxLen]) (by simp [maxLen]; omega)).mono ?_; (focus (first | (simp [*]; done) | (with_reducible exact cell_two _ _ _ _) | (with_reducible exact cell_two' _ _ _ _) | (rw [hcl _ _ (by first | (simp; done) | (simp; omega))]; first | with_reducible exact cell_two' _ _ _ _ | with_reducible exact cell_two _ _ _ _))); (focus (first | omega | (simp; done) | (simp; omega))); rintro e w' ⟨rfl, hbx⟩; have hz := hbx.size; (try simp at hz); (try (have hby2 : Byts w' (w.heap.size + 1) s.data.toList := Byts.below (by simp [*]) hbx (by simp; omega))); have hcl := bcell hbx; have hbw := below_step (a := w) (by repeat (first | assumption | refine Below.drew ?_ | refine Below.alloc ?_ (by first | omega | (simp; omega)) _)) hbx; clear hbx)
    | (go_at_call 16; refine (awake_any _).mono ?_; rintro e w' ⟨rfl, hbx⟩; have hbw := below_step (a := w) (by assumption) hbx; clear hbx))
  all_goals
    go_wp2_with fail
    go_ret
    exact ⟨rfl, by assumption⟩
end Go.Proofs.Ytgmoakbmomaffaa.SumsW
