/-
  Contracts of musterref10: Ticks, Add.
-/
import Derived.Test.YthfnmighhoighaaProfRef2
import Derived.Test.YthfnmighhoighaaProf4
namespace Go.Proofs.Ythfnmighhoighaa.ProfW
open Go.RowKit Mem Prof
set_option linter.unusedVariables false

theorem ins_len (l : List Int) (n : Int) : (ins l n).length ≤ l.length + 1 := by
  induction l with
  | nil => simp [ins]
  | cons y r ih =>
    unfold ins
    split
    · simp; omega
    · split
      · simp
      · simp
theorem ticksP_len (p : List Stp) : (ticksP p).length ≤ p.length := by
  unfold ticksP
  have : ∀ (l : List Int), (p.foldl (fun l s => ins l s.1) l).length ≤ l.length + p.length := by
    induction p with
    | nil => intro l; simp
    | cons s r ih => intro l; have := ih (ins l s.1); have := ins_len l s.1; simp only [List.foldl_cons, List.length_cons]; omega
  simpa using this []
theorem fold_ins_len : ∀ (m l : List Int), (m.foldl ins l).length ≤ l.length + m.length := by
  intro m
  induction m with
  | nil => intro l; simp
  | cons x r ih => intro l; have := ih (ins l x); have := ins_len l x; simp only [List.foldl_cons, List.length_cons]; omega
def TkRel (w : World) (p : List Stp) (X Y : Value) (wr : World) : Prop := ∃ (k : Nat) (A : Option Addr) (n c : Nat), k ≤ p.length ∧ Y = .int .i64 k ∧ X = .slice A n c ∧ Ints wr A n (ticksP (p.take k)) ∧ n ≤ c ∧ (A = none → c = 0) ∧ Below w.heap.size w wr
def TkRel2 (w : World) (l m : List Int) (X Y : Value) (wr : World) : Prop := ∃ (k : Nat) (A : Option Addr) (n c : Nat), k ≤ m.length ∧ Y = .int .i64 k ∧ X = .slice A n c ∧ Ints wr A n ((m.take k).foldl ins l) ∧ n ≤ c ∧ (A = none → c = 0) ∧ Below w.heap.size w wr
set_option maxHeartbeats 2000000 in
set_option maxRecDepth 100000 in
theorem rticks_any (A : Option Addr) (n c : Nat) (p : List Stp) (B : Option Addr) (q d : Nat) (m : List Int) (w : World) (h : Steps w A n p) (hn : n ≤ 10000) (g : Ints w B q m) (hq : q ≤ 10000) :
    Calls Try.prog 73 #[.slice A n c, .slice B q d] w (IntsR (m.foldl ins (ticksP p)) w) := by
  have hl := h.len
  have hk := g.len
  subst hl hk
  have HH := Lib.hid h
  have HG := Lib.hid g
  clear h g
  go_enter Try.func73, Try.ntmps73
  go_wp2_with fail
  go_loopw [5, 6] (fun X Y wr => TkRel w p X Y wr) (fun _ Y _ => p.length - (intOf Y).toNat)
  case atStart => exact ⟨0, none, 0, 0, by omega, rfl, rfl, Lst.nil _ _ _ _, Nat.le_refl _, fun _ => rfl, Below.refl _ _⟩
  case round =>
    obtain ⟨k, A1, n1, c1, hk, rfl, rfl, hI, hc1, hA1, bw⟩ := hrel
    have hlen := hI.len
    have htl := ticksP_len (p.take k)
    have hn1 : n1 ≤ 10000 := by rw [List.length_take] at htl; omega
    have HL := Lib.hid hlen
    clear hlen htl
    by_cases hlt : k < p.length
    · obtain ⟨b, off, s, rfl, hbl, hs, c0, _⟩ := Lst.two (HH.out.below bw) hlt
      have HT : Hid (ticksP (p.take (k + 1)) = ins (ticksP (p.take k)) s.1) := by show _ = _; rw [take_snoc_some hs, ticksP_snoc]
      have HA1 := Lib.hid hA1
      clear hs hA1
      go_wp2_with fail
      refine (rput_any A1 n1 c1 _ s.1 wr hI (by omega) hc1 HA1.out).mono ?_
      rw [← HT.out]
      rintro e w2 ⟨A2, n2, c2, rfl, hI2, hc2, hA2, b2⟩
      have bw2 := below_step bw b2
      have HA2 := Lib.hid hA2
      clear hA2 c0 hI b2
      go_wp2_with fail
      exact ⟨⟨k + 1, A2, n2, c2, by omega, by go_num, rfl, hI2, hc2, HA2.out, bw2⟩, by simp [intOf]; omega⟩
    · have HT : Hid (ticksP (p.take k) = ticksP p) := by show _ = _; rw [List.take_of_length_le (by omega)]
      rw [HT.out] at hI
      have hl0 := ticksP_len p
      have HA1 := Lib.hid hA1
      clear hA1
      obtain ⟨wo, rfl⟩ : ∃ wo : World, wo = wr := ⟨_, rfl⟩
      go_wp2_with fail
      go_loopw [5, 7] (fun X Y wr => TkRel2 w (ticksP p) m X Y wr) (fun _ Y _ => m.length - (intOf Y).toNat)
      case atStart => exact ⟨0, A1, n1, c1, by omega, rfl, rfl, hI, hc1, HA1.out, bw⟩
      case round =>
        clear hI hc1 bw
        obtain ⟨j, A3, n3, c3, hj, rfl, rfl, hI, hc3, hA3, bw⟩ := hrel
        have hlen := hI.len
        have htl := fold_ins_len (m.take j) (ticksP p)
        have hn3 : n3 ≤ 20000 := by rw [List.length_take] at htl; omega
        have HL3 := Lib.hid hlen
        have HA3 := Lib.hid hA3
        clear hlen htl hA3
        by_cases hlt2 : j < m.length
        · obtain ⟨b, off, y, rfl, hbl, hy, c0⟩ := Lst.int (HG.out.below bw) hlt2
          have HT2 : Hid ((m.take (j + 1)).foldl ins (ticksP p) = ins ((m.take j).foldl ins (ticksP p)) y) := by show _ = _; rw [take_snoc_some hy, List.foldl_append]; rfl
          clear hy
          go_wp2_with fail
          refine (rput_any A3 n3 c3 _ y wr hI (by omega) hc3 HA3.out).mono ?_
          rw [← HT2.out]
          rintro e w2 ⟨A2, n2, c2, rfl, hI2, hc2, hA2, b2⟩
          have bw2 := below_step bw b2
          have HA2 := Lib.hid hA2
          clear hA2 c0 hI b2
          go_wp2_with fail
          exact ⟨⟨j + 1, A2, n2, c2, by omega, by go_num, rfl, hI2, hc2, HA2.out, bw2⟩, by simp [intOf]; omega⟩
        · have HT2 : Hid ((m.take j).foldl ins (ticksP p) = m.foldl ins (ticksP p)) := by show _ = _; rw [List.take_of_length_le (by omega)]
          rw [HT2.out] at hI
          go_wp2_with fail
          go_ret
          exact ⟨A3, n3, c3, rfl, hI, hc3, HA3.out, bw⟩
end Go.Proofs.Ythfnmighhoighaa.ProfW
