/-
  StorePlays: few, does of any act, and the law's walk.
-/
import Derived.Test.YtdhnegcblnpmfaaStoreDoes2
import Derived.Test.YtdhnegcblnpmfaaCells
namespace Go.Proofs.Ytdhnegcblnpmfaa.StorW
open Go.RowKit Mem Stor
set_option linter.unusedVariables false

def actRow (x : Act1) : List Value := [.int .i64 x.k, .int .i64 x.a, .int .i64 x.b, .string x.t]
abbrev Acts := Lst actRow 4
def fewB (l : List Act1) : Bool := decide (l.length ≤ 100) && l.all fun x => decide (x.t.size ≤ 1000)
theorem few_mk {l : List Act1} (h : l.length ≤ 100) (h2 : ∀ x ∈ l, x.t.size ≤ 1000) : fewB l = true := by simp [fewB, h]; exact h2
theorem few_long {l : List Act1} (h : 100 < l.length) : fewB l = false := by simp [fewB]; intro h'; omega
theorem few_bad {l : List Act1} {k : Nat} {x : Act1} (h : l[k]? = some x) (h2 : 1000 < x.t.size) : fewB l = false := by
  simp only [fewB, Bool.and_eq_false_iff]
  refine .inr ?_
  rw [List.all_eq_false]
  exact ⟨x, List.mem_of_getElem? h, by simpa using h2⟩

set_option maxHeartbeats 1000000 in
theorem few_any (A : Option Addr) (n c : Nat) (l : List Act1) (w : World) (h : Acts w A n l) (hn : n ≤ maxLen) (hl : ∀ x ∈ l, x.t.size ≤ maxLen) :
    Calls Try.prog 11 #[.slice A n c] w fun e w' => e = .returned (.bool (fewB l)) ∧ w = w' := by
  unfold maxLen at hn hl
  have hlen := h.len
  subst hlen
  by_cases hb : 100 < l.length
  · go_enter Try.func11, Try.ntmps11
    go_wp2_with fail
    go_ret
    exact ⟨ret_bool (few_long hb).symm, rfl⟩
  · go_enter Try.func11, Try.ntmps11
    go_wp2_with fail
    go_loop [3] (fun i => ∃ k : Nat, k ≤ l.length ∧ i = .int .i64 k ∧ ∀ x ∈ l.take k, x.t.size ≤ 1000) (fun i => l.length - (intOf i).toNat)
    case atStart => exact ⟨0, by omega, rfl, by simp⟩
    case round =>
      obtain ⟨k, hk, rfl, hall⟩ := hrel
      have HA := Lib.hid hall
      clear hall
      by_cases hlt : k < l.length
      · obtain ⟨b, off, x, rfl, _, hx, hc⟩ := h.at_ hlt
        have c3 := hc 3 (.string x.t) rfl
        have hm := hl x (List.mem_of_getElem? hx)
        have HX := Lib.hid hx
        have HL := Lib.hid hl
        clear hx hc hl
        by_cases hs : 1000 < x.t.size
        · go_wp2_with fail
          go_ret
          exact ⟨ret_bool (few_bad HX.out hs).symm, rfl⟩
        · go_wp2_with fail
          go_round
          case rel => exact ⟨k + 1, by omega, by go_num, take_all HA.out HX.out (by omega)⟩
          case measure => simp [intOf]; omega
      · go_wp2_with fail
        go_ret
        exact ⟨ret_bool (few_mk (by omega) (by have := HA.out; rwa [List.take_of_length_le (by omega)] at this)).symm, rfl⟩

theorem does_any (base g : Nat) (A : Option Addr) (c : Nat) (s : Sto) (x : Act1) (w : World) (h : ROwn w base A s.bs.length c s.bs) (hi : Is w base g s) (hbase : base ≤ w.heap.size) (hok : s.Ok) (hw : s.wr < 1000000) (ht : x.t.size ≤ 1000) :
    Calls Try.prog 23 #[.pointer (some ⟨g, 0, none⟩), rv A s.bs.length c s, av x.k x.a x.b x.t] w (DoesPost base g s.bs.length (act s x) w) := by
  obtain ⟨k, a, b, t⟩ := x
  by_cases h0 : k = 0
  · subst h0; exact does_read base g A c s a b t w h hi hbase hok
  by_cases h1 : k = 1
  · subst h1; exact does_write base g A c s a b t w h hi hbase hok hw ht
  by_cases h2 : k = 2
  · subst h2; exact does_arm base g A c s a b t w h hi hbase hok
  by_cases h3 : k = 3
  · subst h3; exact does_boot base g A c s a b t w h hi hbase hok
  by_cases h4 : k = 4
  · subst h4; exact does_off base g A c s a b t w h hi hbase hok
  · have : act s ⟨k, a, b, t⟩ = s := by simp [act, h1, h2, h3, h4]
    rw [this]
    exact does_none base g A c s k a b t w h hi hbase h0 h1 h2 h3 h4
theorem act_ok {s : Sto} (h : s.Ok) (x : Act1) (ha : x.a ≤ 9223372036854775807) : (act s x).Ok := by
  unfold act
  repeat' split
  · exact write_ok h _ _
  · exact arm_ok h _ _ ha
  · exact power_ok h _
  · exact power_ok h _
  · exact h
theorem act_len (s : Sto) (x : Act1) : (act s x).bs.length = s.bs.length := by
  unfold act
  repeat' split
  · exact write_len _ _ _
  · unfold arm; repeat' split
    all_goals rfl
  · rfl
  · rfl
  · rfl
theorem act_wr (s : Sto) (x : Act1) : (act s x).wr ≤ s.wr + 1 := by
  unfold act
  repeat' split
  · exact (write_wr s _ _).2
  · unfold arm; repeat' split
    all_goals (simp; omega)
  · simp [power]; omega
  · simp [power]; omega
  · omega
end Go.Proofs.Ytdhnegcblnpmfaa.StorW
