/-
  Contracts of musterref10: put, Ticks.
-/
import Derived.Test.YthfnmighhoighaaProfRef
import Derived.Test.YthfnmighhoighaaSlices2
namespace Go.Proofs.Ythfnmighhoighaa.ProfW
open Go.RowKit Mem Prof
set_option linter.unusedVariables false

theorem intInfo : (Try.prog.info? 3).map (fun i => (i.zero, i.size, i.bytes)) = some (some (.int .i64 0), 1, 8) := by kernel_rfl
/-- a row of ints that can be read -/
def IntsR (l : List Int) (w : World) (e : Ending) (w' : World) : Prop := ∃ A n c, e = .returned (.slice A n c) ∧ Ints w' A n l ∧ n ≤ c ∧ (A = none → c = 0) ∧ Below w.heap.size w w'

abbrev EO : Obj := .cells #[] 3
abbrev XO (x : Int) : Obj := .cells #[.int .i64 x] 3
theorem one_b (w : World) (x : Int) {W1 : World} (hsz : ((w.alloc EO).alloc (XO x)).drew.heap.size ≤ W1.heap.size) (hf : ∀ b, b < ((w.alloc EO).alloc (XO x)).drew.heap.size → some (⟨w.heap.size, 0, none⟩ : Addr) ≠ some ⟨b, 0, none⟩ → W1.heap[b]? = ((w.alloc EO).alloc (XO x)).drew.heap[b]?) : Ints W1 (some ⟨w.heap.size + 1, 0, none⟩) 1 [x] := by
  have h1 := Lst.new layI (w.alloc EO) x #[.int .i64 x] 3 rfl
  have e : (w.alloc EO).heap.size = w.heap.size + 1 := by simp
  rw [e] at h1
  refine Lst.keep h1 (Nat.le_trans (Nat.le_refl _) hsz) (hf (w.heap.size + 1) (by simp) (by intro h; injection h with h; injection h with h; omega))
theorem one_c (w : World) (x : Int) {W1 : World} (hsz : ((w.alloc (XO x)).alloc EO).drew.heap.size ≤ W1.heap.size) (hf : ∀ b, b < ((w.alloc (XO x)).alloc EO).drew.heap.size → some (⟨w.heap.size + 1, 0, none⟩ : Addr) ≠ some ⟨b, 0, none⟩ → W1.heap[b]? = ((w.alloc (XO x)).alloc EO).drew.heap[b]?) : Ints W1 (some ⟨w.heap.size, 0, none⟩) 1 [x] := by
  have h1 := (Lst.new layI w x #[.int .i64 x] 3 rfl).below ((Below.refl _ _).alloc (Nat.le_refl _) EO)
  refine Lst.keep h1 (Nat.le_trans (Nat.le_refl _) hsz) (hf w.heap.size (by simp; omega) (by intro h; injection h with h; injection h with h; omega))
set_option maxHeartbeats 2000000 in
set_option maxRecDepth 100000 in
theorem rput_any (A : Option Addr) (n c : Nat) (l : List Int) (x : Int) (w : World) (h : Ints w A n l) (hn : n ≤ 100000) (hc : n ≤ c) (hA : A = none → c = 0) :
    Calls Try.prog 78 #[.slice A n c, .int .i64 x] w (IntsR (ins l x) w) := by
  have hl := h.len
  subst hl
  have HH := Lib.hid h
  have HA := Lib.hid hA
  clear h hA
  go_enter Try.func78, Try.ntmps78
  go_wp2_with fail
  go_loop [5] (fun i => ∃ k : Nat, k ≤ l.length ∧ i = .int .i64 k ∧ ∀ j y, j < k → l[j]? = some y → y < x) (fun i => l.length - (intOf i).toNat)
  case atStart => exact ⟨0, by omega, rfl, by omega⟩
  case round =>
    obtain ⟨i, hi, rfl, hall⟩ := hrel
    have HAll := Lib.hid hall
    clear hall
    by_cases hlt : i < l.length
    · obtain ⟨b, off, y, rfl, hbl, hy, c0⟩ := Lst.int HH.out hlt
      by_cases hyx : y < x
      · have HY := Lib.hid hy
        clear hy
        go_wp2_with fail
        go_round
        case rel =>
          refine ⟨i + 1, by omega, by go_num, fun j z hj hz => ?_⟩
          rcases Nat.lt_or_ge j i with h' | h'
          · exact HAll.out j z h' hz
          · obtain rfl : j = i := by omega
            have := HY.out
            rw [hz] at this
            injection this with this
            omega
        case measure => simp [intOf]; omega
      · have HI := Lib.hid (ins_at l x i HAll.out hi (fun z hz => by rw [hy] at hz; injection hz with hz; omega))
        by_cases hE : y = x
        · have hq : (y == x) = true := by simpa using hE
          rw [hy, hE, if_pos rfl] at HI
          clear hy hE
          go_wp2_with fail
          go_ret
          rw [HI.out]
          exact ⟨_, _, c, rfl, HH.out, hc, HA.out, Below.refl _ _⟩
        · have hq : (y == x) = false := by simpa using hE
          rw [hy, if_neg (fun e => hE (by injection e))] at HI
          clear hy hE
          have HT : Hid (∀ w', Below w.heap.size w w' → Ints w' (some ⟨b, off, none⟩) i (l.take i)) := fun w' hb' => Lst.pre (HH.out.below hb') i (by omega)
          have HD : Hid (∀ w', Below w.heap.size w w' → Ints w' (some ⟨b, off + i, none⟩) (l.length - i) (l.drop i)) := by
            show ∀ w', _
            intro w' hb'
            have := Lst.drop (HH.out.below hb') i (by omega)
            rw [Nat.mul_one] at this
            exact this
          have hI2 : (i : Int) ≤ (l.length : Int) := by omega
          have hI3 : (i : Int) ≤ (c : Int) := by omega
          have hI4 : (l.length : Int) ≤ (c : Int) := by omega
          have hI5 : ¬ i = c := by omega
          have hI6 : ¬ c = i := by omega
          go_wp2_with fail
          go_region_law (first
            | (refine step_app_0 layI w.heap.size rfl _ _ (by rfl) (by rfl) (by rfl) Try.underlying43 intInfo rfl (HT.out _ ?_) ?_ ?_ ?_ ?_; (first | exact ((Below.refl _ _).alloc (Nat.le_refl _) _).drew | exact (((Below.refl _ _).alloc (Nat.le_refl _) _).alloc (by simp) _).drew); (simp [maxLen]; omega); omega; (simp <;> omega); (intro A1 c1 W1 ho1 hb1 hf1; have hs1 : w.heap.size ≤ W1.heap.size := (by have hz := hb1.size; simp at hz; omega)))
            | (refine step_app_s layI (base := w.heap.size) rfl _ _ (by rfl) (by rfl) (by rfl) Try.underlying43 intInfo rfl ho1 (one_b w x hb1.size hf1) ?_ ?_ ?_ ?_; (simp [maxLen]; omega); omega; (first | exact hs1 | (simp; omega)); (intro A2 c2 W2 ho2 hb2 hf2; have bz : Below w.heap.size w W2 := (((((Below.refl _ _).alloc (Nat.le_refl _) _).alloc (by simp) _).drew).trans hb1).trans hb2; clear hb1 hb2 hf1 hf2 ho1))
            | (refine step_app_s layI (base := w.heap.size) rfl _ _ (by rfl) (by rfl) (by rfl) Try.underlying43 intInfo rfl ho1 (one_c w x hb1.size hf1) ?_ ?_ ?_ ?_; (simp [maxLen]; omega); omega; (first | exact hs1 | (simp; omega)); (intro A2 c2 W2 ho2 hb2 hf2; have bz : Below w.heap.size w W2 := (((((Below.refl _ _).alloc (Nat.le_refl _) _).alloc (by simp) _).drew).trans hb1).trans hb2; clear hb1 hb2 hf1 hf2 ho1))
            | (refine step_app_s layI (base := w.heap.size) rfl _ _ (by rfl) (by rfl) (by rfl) Try.underlying43 intInfo rfl (ho1.below ((Below.refl _ _).alloc (Nat.le_refl _) _)) (Lst.new layI W1 x #[.int .i64 x] 3 rfl) ?_ ?_ ?_ ?_; (simp [maxLen]; omega); omega; (first | exact hs1 | (simp; omega)); (intro A2 c2 W2 ho2 hb2 hf2; have bz : Below w.heap.size w W2 := (((((Below.refl _ _).alloc (Nat.le_refl _) _).drew).trans hb1).alloc hs1 _).trans hb2; clear hb1 hb2 hf1 hf2 ho1))
            | (refine step_app_s layI (base := w.heap.size) rfl _ _ (by rfl) (by rfl) (by rfl) Try.underlying43 intInfo rfl ho2 (HD.out _ bz) ?_ ?_ ?_ ?_; (simp [maxLen]; omega); omega; exact bz.size; (intro A3 c3 W3 ho3 hb3 hf3)))
          all_goals go_wp2_with fail
          all_goals go_ret
          all_goals rw [HI.out]
          all_goals exact ⟨_, _, c3, rfl, by rw [show i + 1 + (l.length - i) = l.length + 1 by omega] at ho3 ⊢; exact ho3.lst layI, by have := ho3.2.le; omega, ho3.2.bare, bz.trans hb3⟩
    · obtain rfl : i = l.length := by omega
      have HI : Hid (ins l x = l ++ [x]) := by
        show _ = _
        rw [ins_at l x l.length HAll.out (Nat.le_refl _) (fun z hz => by rw [List.getElem?_eq_none (Nat.le_refl _)] at hz; cases hz), List.getElem?_eq_none (Nat.le_refl _), if_neg (by simp), List.take_length, List.drop_length, List.append_nil]
      have hq : decide (l.length < l.length) = false := by simp
      cases A with
      | none =>
        have hc0 : c = 0 := HA.out rfl
        subst hc0
        have hl0 : l = [] := List.eq_nil_of_length_eq_zero (by omega)
        subst hl0
        have HT : Hid (∀ w', Below w.heap.size w w' → Ints w' none 0 ([] : List Int)) := fun w' hb' => Lst.nil _ _ _ _
        simp only [List.length_nil] at *
        go_wp2_with fail
        go_region_law (first
          | (refine step_app_0 layI w.heap.size rfl _ _ (by rfl) (by rfl) (by rfl) Try.underlying43 intInfo rfl (one_b w x (Nat.le_refl _) (fun _ _ _ => rfl)) ?_ ?_ ?_ ?_; (simp [maxLen]); omega; (simp <;> omega); (intro A2 c2 W2 ho2 hb2 hf2; have bz : Below w.heap.size w W2 := ((((Below.refl _ _).alloc (Nat.le_refl _) _).alloc (by simp) _).drew).trans hb2))
          | (refine step_app_0 layI w.heap.size rfl _ _ (by rfl) (by rfl) (by rfl) Try.underlying43 intInfo rfl (one_c w x (Nat.le_refl _) (fun _ _ _ => rfl)) ?_ ?_ ?_ ?_; (simp [maxLen]); omega; (simp <;> omega); (intro A2 c2 W2 ho2 hb2 hf2; have bz : Below w.heap.size w W2 := ((((Below.refl _ _).alloc (Nat.le_refl _) _).alloc (by simp) _).drew).trans hb2))
          | (refine step_app_s layI (base := w.heap.size) rfl _ _ (by rfl) (by rfl) (by rfl) Try.underlying43 intInfo rfl ho2 (Lst.nil intRow 1 _ _) ?_ ?_ ?_ ?_; (simp [maxLen]); omega; exact bz.size; (intro A3 c3 W3 ho3 hb3 hf3)))
        all_goals go_wp2_with fail
        all_goals go_ret
        all_goals rw [HI.out]
        all_goals first | exact ⟨_, _, c3, rfl, by simpa using ho3.lst layI, by have := ho3.2.le; omega, ho3.2.bare, bz.trans hb3⟩ | exact ⟨_, _, c2, rfl, by simpa using ho2.lst layI, by have := ho2.2.le; omega, ho2.2.bare, bz⟩
      | some a =>
        have HT : Hid (∀ w', Below w.heap.size w w' → Ints w' (some a) l.length l) := fun w' hb' => HH.out.below hb'
        by_cases hcl : c = l.length
        · subst hcl
          go_wp2_with fail
          go_region_law (first
            | (refine step_app_0 layI w.heap.size rfl _ _ (by rfl) (by rfl) (by rfl) Try.underlying43 intInfo rfl (HT.out _ ?_) ?_ ?_ ?_ ?_; (first | exact ((Below.refl _ _).alloc (Nat.le_refl _) _).drew | exact (((Below.refl _ _).alloc (Nat.le_refl _) _).alloc (by simp) _).drew); (simp [maxLen]; omega); omega; (simp <;> omega); (intro A1 c1 W1 ho1 hb1 hf1; have hs1 : w.heap.size ≤ W1.heap.size := (by have hz := hb1.size; simp at hz; omega)))
            | (refine step_app_s layI (base := w.heap.size) rfl _ _ (by rfl) (by rfl) (by rfl) Try.underlying43 intInfo rfl ho1 (one_b w x hb1.size hf1) ?_ ?_ ?_ ?_; (simp [maxLen]; omega); omega; (first | exact hs1 | (simp; omega)); (intro A2 c2 W2 ho2 hb2 hf2; have bz : Below w.heap.size w W2 := (((((Below.refl _ _).alloc (Nat.le_refl _) _).alloc (by simp) _).drew).trans hb1).trans hb2; clear hb1 hb2 hf1 hf2 ho1))
            | (refine step_app_s layI (base := w.heap.size) rfl _ _ (by rfl) (by rfl) (by rfl) Try.underlying43 intInfo rfl ho1 (one_c w x hb1.size hf1) ?_ ?_ ?_ ?_; (simp [maxLen]; omega); omega; (first | exact hs1 | (simp; omega)); (intro A2 c2 W2 ho2 hb2 hf2; have bz : Below w.heap.size w W2 := (((((Below.refl _ _).alloc (Nat.le_refl _) _).alloc (by simp) _).drew).trans hb1).trans hb2; clear hb1 hb2 hf1 hf2 ho1))
            | (refine step_app_s layI (base := w.heap.size) rfl _ _ (by rfl) (by rfl) (by rfl) Try.underlying43 intInfo rfl (ho1.below ((Below.refl _ _).alloc (Nat.le_refl _) _)) (Lst.new layI W1 x #[.int .i64 x] 3 rfl) ?_ ?_ ?_ ?_; (simp [maxLen]; omega); omega; (first | exact hs1 | (simp; omega)); (intro A2 c2 W2 ho2 hb2 hf2; have bz : Below w.heap.size w W2 := (((((Below.refl _ _).alloc (Nat.le_refl _) _).drew).trans hb1).alloc hs1 _).trans hb2; clear hb1 hb2 hf1 hf2 ho1))
            | (refine step_app_s layI (base := w.heap.size) rfl _ _ (by rfl) (by rfl) (by rfl) Try.underlying43 intInfo rfl ho2 (Lst.nil intRow 1 _ _) ?_ ?_ ?_ ?_; (simp [maxLen]; omega); omega; exact bz.size; (intro A3 c3 W3 ho3 hb3 hf3)))
          all_goals go_wp2_with fail
          all_goals go_ret
          all_goals rw [HI.out]
          all_goals first | exact ⟨_, _, c3, rfl, by simpa using ho3.lst layI, by have := ho3.2.le; omega, ho3.2.bare, bz.trans hb3⟩ | exact ⟨_, _, c2, rfl, by simpa using ho2.lst layI, by have := ho2.2.le; omega, ho2.2.bare, bz⟩
        · have hcl3 : ¬ l.length = c := fun e => hcl e.symm
          go_wp2_with fail
          go_region_law (first
            | (refine step_app_0 layI w.heap.size rfl _ _ (by rfl) (by rfl) (by rfl) Try.underlying43 intInfo rfl (HT.out _ ?_) ?_ ?_ ?_ ?_; (first | exact ((Below.refl _ _).alloc (Nat.le_refl _) _).drew | exact (((Below.refl _ _).alloc (Nat.le_refl _) _).alloc (by simp) _).drew); (simp [maxLen]; omega); omega; (simp <;> omega); (intro A1 c1 W1 ho1 hb1 hf1; have hs1 : w.heap.size ≤ W1.heap.size := (by have hz := hb1.size; simp at hz; omega)))
            | (refine step_app_s layI (base := w.heap.size) rfl _ _ (by rfl) (by rfl) (by rfl) Try.underlying43 intInfo rfl ho1 (one_b w x hb1.size hf1) ?_ ?_ ?_ ?_; (simp [maxLen]; omega); omega; (first | exact hs1 | (simp; omega)); (intro A2 c2 W2 ho2 hb2 hf2; have bz : Below w.heap.size w W2 := (((((Below.refl _ _).alloc (Nat.le_refl _) _).alloc (by simp) _).drew).trans hb1).trans hb2; clear hb1 hb2 hf1 hf2 ho1))
            | (refine step_app_s layI (base := w.heap.size) rfl _ _ (by rfl) (by rfl) (by rfl) Try.underlying43 intInfo rfl ho1 (one_c w x hb1.size hf1) ?_ ?_ ?_ ?_; (simp [maxLen]; omega); omega; (first | exact hs1 | (simp; omega)); (intro A2 c2 W2 ho2 hb2 hf2; have bz : Below w.heap.size w W2 := (((((Below.refl _ _).alloc (Nat.le_refl _) _).alloc (by simp) _).drew).trans hb1).trans hb2; clear hb1 hb2 hf1 hf2 ho1))
            | (refine step_app_s layI (base := w.heap.size) rfl _ _ (by rfl) (by rfl) (by rfl) Try.underlying43 intInfo rfl (ho1.below ((Below.refl _ _).alloc (Nat.le_refl _) _)) (Lst.new layI W1 x #[.int .i64 x] 3 rfl) ?_ ?_ ?_ ?_; (simp [maxLen]; omega); omega; (first | exact hs1 | (simp; omega)); (intro A2 c2 W2 ho2 hb2 hf2; have bz : Below w.heap.size w W2 := (((((Below.refl _ _).alloc (Nat.le_refl _) _).drew).trans hb1).alloc hs1 _).trans hb2; clear hb1 hb2 hf1 hf2 ho1))
            | (refine step_app_s layI (base := w.heap.size) rfl _ _ (by rfl) (by rfl) (by rfl) Try.underlying43 intInfo rfl ho2 (Lst.nil intRow 1 _ _) ?_ ?_ ?_ ?_; (simp [maxLen]; omega); omega; exact bz.size; (intro A3 c3 W3 ho3 hb3 hf3)))
          all_goals go_wp2_with fail
          all_goals go_ret
          all_goals rw [HI.out]
          all_goals first | exact ⟨_, _, c3, rfl, by simpa using ho3.lst layI, by have := ho3.2.le; omega, ho3.2.bare, bz.trans hb3⟩ | exact ⟨_, _, c2, rfl, by simpa using ho2.lst layI, by have := ho2.2.le; omega, ho2.2.bare, bz⟩
end Go.Proofs.Ythfnmighhoighaa.ProfW
