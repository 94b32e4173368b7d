/-
  Contracts of muster/nodeset: Has, List, Lowest.
-/
import Derived.Test.YtdamocjbkdknaaaAllocSet
import Derived.Test.YtdamocjbkdknaaaAllocPlain
import Derived.Test.YtdamocjbkdknaaaFleetLaw5
namespace Go.Proofs.Ytdamocjbkdknaaa.FleetW
open Go.RowKit Mem Fleet
set_option linter.unusedVariables false
set_option linter.unusedSimpArgs false
set_option linter.unnecessarySimpa false

def hasB (s : Nat) (n : Int) : Bool := decide (0 ≤ n) && decide (n < 64) && s.testBit n.toNat
set_option maxHeartbeats 1000000 in
theorem has_any (s : Nat) (n : Int) (w : World) (hs : s < 2 ^ 64) : Calls Try.prog 44 #[.int .u64 (s : Int), .int .i64 n] w fun e w' => e = .returned (.bool (hasB s n)) ∧ w = w' := by
  by_cases h0 : 0 ≤ n
  · by_cases h1 : n < 64
    · obtain ⟨k, rfl⟩ : ∃ k : Nat, n = (k : Int) := ⟨n.toNat, by omega⟩
      have hk : k < 64 := by omega
      obtain ⟨P, hP⟩ : ∃ P, P = 2 ^ k := ⟨_, rfl⟩
      have HOne := Lib.hid (one_is P k w hk hP)
      have hb := bits_has s k P hs hk hP
      have hd : decide ((k : Int) < 64) = true := by simp; omega
      have HV : Hid (hasB s (k : Int) = s.testBit k) := by show _ = _; rw [hasB, hd]; simp
      obtain ⟨bb, hbb⟩ : ∃ bb, bb = s.testBit k := ⟨_, rfl⟩
      rw [← hbb] at hb HV
      clear hP hs hbb
      go_enter Try.func44, Try.ntmps44
      go_wp2_with fail
      refine HOne.out.mono ?_
      rintro e w' ⟨rfl, rfl⟩
      go_wp2_with fail
      go_ret
      exact ⟨ret_bool HV.out.symm, rfl⟩
    · have HV : Hid (hasB s n = false) := by show _ = _; simp [hasB, h1]
      have hd : decide (n < 64) = false := by simp; omega
      go_enter Try.func44, Try.ntmps44
      go_wp2_with fail
      go_ret
      exact ⟨ret_bool HV.out.symm, rfl⟩
  · have HV : Hid (hasB s n = false) := by show _ = _; simp [hasB, h0]
    have hd : decide (0 ≤ n) = false := by simp; omega
    go_enter Try.func44, Try.ntmps44
    go_wp2_with fail
    go_ret
    exact ⟨ret_bool HV.out.symm, rfl⟩
def memT (s k : Nat) : List Nat := (List.range k).filter (fun i => s.testBit i)
theorem memT_snoc (s k : Nat) : memT s (k + 1) = memT s k ++ if s.testBit k then [k] else [] := by
  unfold memT
  rw [List.range_succ, List.filter_append]
  congr 1
  cases h : s.testBit k <;> simp [h]
def NLRel (w : World) (s : Nat) (X Y : Value) (wr : World) : Prop := ∃ (k : Nat) (A : Option Addr) (n c : Nat), k ≤ 64 ∧ X = .slice A n c ∧ Y = .int .i64 k ∧ n ≤ k ∧ IntsO wr w.heap.size A n c (nats (memT s k)) ∧ Below w.heap.size w wr
set_option maxHeartbeats 2000000 in
set_option maxRecDepth 100000 in
theorem nlist_any (s : Nat) (w : World) (hs : s < 2 ^ 64) : Calls Try.prog 60 #[.int .u64 (s : Int)] w (NewI (memL s) w) := by
  have HS := Lib.hid hs
  clear hs
  go_enter Try.func60, Try.ntmps60
  go_wp2_with fail
  go_loopw [3, 5] (fun X Y wr => NLRel w s X Y wr) (fun _ Y _ => 64 - (intOf Y).toNat)
  case atStart => exact ⟨0, none, 0, 0, by omega, rfl, rfl, by omega, SOwn.nil _ _ _ _, Below.refl _ _⟩
  case round =>
    obtain ⟨k, A1, n1, c1, hk, rfl, rfl, hnk, ho, hbel⟩ := hrel
    have HO := Lib.hid ho
    clear ho
    by_cases hlt : k < 64
    · obtain ⟨P, hP⟩ : ∃ P, P = 2 ^ k := ⟨_, rfl⟩
      have HOne := Lib.hid (one_is P k wr hlt hP)
      have hb := bits_has s k P HS.out hlt hP
      have HSn := Lib.hid (memT_snoc s k)
      have hki : (k : Int) < 64 := by omega
      clear hP
      cases hq : s.testBit k
      · rw [hq] at hb HSn
        rw [if_neg (by simp), List.append_nil] at HSn
        clear hq
        go_wp2_with fail
        refine HOne.out.mono ?_
        rintro e w' ⟨rfl, rfl⟩
        go_wp2_with fail
        exact ⟨⟨k + 1, A1, n1, c1, by omega, rfl, by go_num, by omega, by rw [HSn.out]; exact HO.out, hbel⟩, by simp [intOf]; omega⟩
      · rw [hq] at hb HSn
        rw [if_pos rfl] at HSn
        clear hq
        obtain ⟨U, hU⟩ : ∃ U, U = wr.alloc (.cells #[.int .i64 (k : Int)] 3) := ⟨_, rfl⟩
        have bU : Below wr.heap.size wr U := by rw [hU]; exact (Below.refl _ _).alloc (Nat.le_refl _) _
        have sU : Ints U (some ⟨wr.heap.size, 0, none⟩) 1 [(k : Int)] := by rw [hU]; exact Lst.new layI wr (k : Int) #[.int .i64 (k : Int)] 3 rfl
        obtain ⟨A2, c2, w3, hrun, o3, b3, _, _⟩ := app_s layI (P := Try.prog) U w.heap.size 51 51 3 _ 8 Try.underlying51 intInfo rfl A1 n1 c1 _ (HO.out.below bU) (some ⟨wr.heap.size, 0, none⟩) 1 1 [(k : Int)] sU (by simp only [maxLen]; omega) (by omega) (Nat.le_trans hbel.size bU.size)
        have hnn : nats (memT s k) ++ [(k : Int)] = nats (memT s (k + 1)) := by rw [HSn.out, nats_append]; rfl
        rw [hnn] at o3
        have HR := Lib.hid hrun
        have HO2 := Lib.hid o3
        rw [hU] at HR
        have b03 := (below_step hbel bU).trans b3
        clear hrun o3 sU hU hnn
        go_wp2_with fail
        refine HOne.out.mono ?_
        rintro e w' ⟨rfl, rfl⟩
        go_wp2_with (at_builtin; refine wpList_app2 rfl _ _ rfl rfl rfl HR.out ?_)
        exact ⟨⟨k + 1, A2, n1 + 1, c2, by omega, rfl, by go_num, by omega, HO2.out, b03⟩, by simp [intOf]; omega⟩
    · obtain rfl : k = 64 := by omega
      have hl : (memL s).length = n1 := by
        have := HO.out.1
        simpa [nats, memT, memL] using this
      have HL := Lib.hid hl
      clear hl
      go_wp2_with fail
      go_ret
      unfold NewI
      rw [HL.out]
      exact ⟨A1, c1, rfl, HO.out, hbel⟩
/-- the least n members -/
def lowT (s : Nat) (n : Int) : Nat × Bool := if n < 0 ∨ ((memL s).length : Int) < n then (0, false) else (setM ((memL s).take n.toNat), true)
set_option maxHeartbeats 2000000 in
theorem lowest_any (s : Nat) (n : Int) (w : World) (hs : s < 2 ^ 64) : Calls Try.prog 64 #[.int .u64 (s : Int), .int .i64 n] w fun e w' => e = .returned (.tuple #[.int .u64 ((lowT s n).1 : Int), .bool (lowT s n).2]) ∧ w = w' := by
  by_cases h0 : n < 0
  · have HV : Hid (lowT s n = (0, false)) := by show _ = _; rw [lowT, if_pos (.inl h0)]
    rw [HV.out]
    go_enter Try.func64, Try.ntmps64
    go_wp2_with fail
    go_ret2
    exact ⟨rfl, rfl⟩
  have HCn := Lib.hid (count_any s w hs)
  have hd0 : decide (n < 0) = false := by simp; omega
  by_cases h1 : ((memL s).length : Int) < n
  · have HV : Hid (lowT s n = (0, false)) := by show _ = _; rw [lowT, if_pos (.inr h1)]
    rw [HV.out]
    generalize (memL s).length = L at HCn h1
    clear h0
    go_enter Try.func64, Try.ntmps64
    go_wp2_with fail
    refine HCn.out.mono ?_
    rintro e w' ⟨rfl, rfl⟩
    go_wp2_with fail
    go_ret2
    exact ⟨rfl, rfl⟩
  · obtain ⟨N, rfl⟩ : ∃ k : Nat, n = (k : Int) := ⟨n.toNat, by omega⟩
    obtain ⟨m, hm⟩ : ∃ m, m = memL s := ⟨_, rfl⟩
    have HV : Hid (lowT s (N : Int) = (setM (m.take N), true)) := by show _ = _; rw [lowT, if_neg (by omega), Int.toNat_natCast, hm]
    rw [HV.out]
    have hse : setM m = s := by rw [hm]; exact setM_memL hs
    have hup : m.Pairwise (· < ·) := by rw [hm]; exact memL_up s
    have hlt : ∀ x ∈ m, x < 64 := by rw [hm]; exact fun x hx => memL_lt hx
    rw [← hm] at HCn h1
    have hNL : N ≤ m.length := by omega
    have hN64 : N ≤ 64 := by have := memL_len s; rw [← hm] at this; omega
    have hd1 : decide ((m.length : Int) < (N : Int)) = false := by simp; omega
    have hd2 : decide (m.length < N) = false := by simp; omega
    have hd3 : ¬ m.length < N := by omega
    have HD := Lib.hid (diff_take hup hlt N)
    have HSe := Lib.hid hse
    have HUp := Lib.hid hup
    have HLt := Lib.hid hlt
    have hdn := bits_andNot s (setM (m.drop N))
    rw [← hse, HD.out, hse] at hdn
    have HDn := Lib.hid hdn
    have hN0 : decide ((N : Int) < 0) = false := by simp
    have hN1 : ¬ (N : Int) < 0 := by omega
    have hle64 : s < 18446744073709551616 := hs
    clear hdn hse hup hlt h0 h1 hm
    go_enter Try.func64, Try.ntmps64
    go_wp2_with fail
    refine HCn.out.mono ?_
    rintro e w' ⟨rfl, rfl⟩
    go_wp2_with fail
    go_loop [6, 17] (fun X Y => ∃ j : Nat, j ≤ N ∧ X = .int .u64 ((setM (m.drop j) : Nat) : Int) ∧ Y = .int .i64 j) (fun _ Y => N - (intOf Y).toNat)
    case atStart => exact ⟨0, by omega, by rw [List.drop_zero, HSe.out], rfl⟩
    case round =>
      obtain ⟨j, hj, rfl, rfl⟩ := hrel
      by_cases hjl : j < N
      · have hcons := List.drop_eq_getElem_cons (show j < m.length by omega)
        have hgt : ∀ x ∈ m.drop (j + 1), m[j] < x := by
          have := HUp.out.sublist (List.drop_sublist j m)
          rw [hcons] at this
          exact (List.pairwise_cons.1 this).1
        have hcl := clear_low hgt
        rw [← hcons] at hcl
        have hlt64 : setM (m.drop j) < 2 ^ 64 := setM_lt _ 64 (HUp.out.sublist (List.drop_sublist _ _)) (fun x hx => HLt.out x (List.mem_of_mem_drop hx))
        have hpos : 0 < setM (m.drop j) := by
          rw [hcons, setM_cons]
          have := Nat.two_pow_pos m[j]
          omega
        have hband := bits_and (setM (m.drop j)) (setM (m.drop j) - 1) hlt64 (by omega)
        rw [hcl] at hband
        obtain ⟨R, hR⟩ : ∃ R, R = setM (m.drop j) := ⟨_, rfl⟩
        obtain ⟨R', hR'⟩ : ∃ R', R' = setM (m.drop (j + 1)) := ⟨_, rfl⟩
        rw [← hR] at hband hlt64 hpos ⊢
        rw [← hR'] at hband
        have e1 : ((R - 1 : Nat) : Int) = (R : Int) - 1 := by omega
        rw [e1] at hband
        have HR' := Lib.hid hR'
        have hRi : (1 : Int) ≤ (R : Int) := by omega
        have hRu : (R : Int) ≤ 18446744073709551615 := by omega
        have hw : IntKind.u64.wrap ((R : Int) - 1) = (R : Int) - 1 := by rw [← e1]; exact wrap_u64 _ (by omega)
        clear hR hR' hcl hgt hcons e1 hlt64 hpos
        go_wp2_with fail
        go_round
        case rel => exact ⟨j + 1, by omega, by rw [← HR'.out], by go_num⟩
        case measure => simp [intOf]; omega
      · obtain rfl : j = N := by omega
        obtain ⟨R, hR⟩ : ∃ R, R = setM (m.drop j) := ⟨_, rfl⟩
        have hdn := HDn.out
        rw [← hR] at hdn ⊢
        clear hR
        go_wp2_with fail
        go_ret2
        exact ⟨rfl, rfl⟩
end Go.Proofs.Ytdamocjbkdknaaa.FleetW
