/-
  Merged: The walk of musterlaw34.JournalKeeps.; The walk of musterlaw34.JournalAgain.; Arguments of the laws on journals, opened: the acts, and where the power goes.
-/
import Derived.Test.YtdhnegcblnpmfaaL12
import Derived.ProofKit
import Derived.OpenShut
import Derived.Lib.SmallJoins
namespace Go.Proofs.Ytdhnegcblnpmfaa.JrnW
open Go.RowKit Mem Jrn PackW FrameW
set_option linter.unusedVariables false
set_option linter.unusedSimpArgs false

theorem str_beq {l m : List UInt8} : ((str l).toList == (str m).toList) = decide (l = m) := by
  have h : ∀ x : List UInt8, (str x).toList = x := fun x => by rw [Lib.toList_data]; rfl
  rw [h, h]
  by_cases e : l = m
  · subst e; simp
  · simp [e]
theorem oper_app {P : Program} {o : Oper} {a : Act} {K : Act → World → Prop} {Q : Exit → Act → World → Prop} {W W' : World} {t : TypeId} {v v2 r : Value} (s x : Operand)
    (ho : o.op = .call { callee := .builtin .append, args := #[s, x], argTypes := #[t, t] }) (hs : a.eval s = v) (hx : a.eval x = v2) (hrun : (Builtin.append_ #[t, t] o.type #[v, v2]).run P W = .ok r W')
    (h : K (a.put o.dst r) W') : Oper.wp P o a W K Q := by
  unfold Oper.wp execOp
  simp only [ho, resolve, invoke, builtin, Sem.run_bind, Sem.run_pure, Result.andThen_ok, List.map_toArray, List.map_cons, List.map_nil, hs, hx, hrun]
  exact h
theorem power_off (s : Stor.Sto) : Stor.power (Stor.power s false) true = again s := rfl
set_option maxHeartbeats 20000000 in
set_option maxRecDepth 100000 in
theorem journalKeeps_walk (A : Option Addr) (n c : Nat) (l : List Acj) (a0 a1 : Int) (W : World) (h : Acjs W A n l) (hn : n ≤ maxLen) (hx : ∀ x ∈ l, x.tx.length ≤ maxLen) (b0 : -9223372036854775808 ≤ a0 ∧ a0 ≤ 9223372036854775807) (b1 : -9223372036854775808 ≤ a1 ∧ a1 ≤ 9223372036854775807) :
    Calls Try.prog 9 #[.slice A n c, .agg #[.int .i64 a0, .int .i64 a1]] W fun e w' => e = .returned (.bool true) ∧ Below W.heap.size W w' := by
  have hl := h.len
  subst hl
  obtain ⟨V, hV⟩ : ∃ V, V = W.alloc (.cells #[.int .i64 a0, .int .i64 a1] 73) := ⟨_, rfl⟩
  have bV : Below W.heap.size W V := by rw [hV]; exact (Below.refl _ _).alloc (Nat.le_refl _) _
  have kV : Blk V W.heap.size 73 #[.int .i64 a0, .int .i64 a1] := by rw [hV]; exact Blk.new _ _ _
  have HFw := Lib.hid (few_any A l.length c l V (h.below bV) hn hx)
  have v0 := kV.cell 0
  have v1 := kV.cell 1
  have HL := Lib.hid h
  have HNw := Lib.hid (StorW.new_any 40 V (by omega) (by omega))
  have HSame := Lib.hid fun A B n m c d l k w h g hn hm => same_any A B n m c d l k w h g hn hm
  obtain ⟨i0, hi0, hz0, hz1, hz2⟩ := info_parts StorW.strInfo
  clear hx hn
  by_cases hf : fewB l = true
  case neg =>
    have e0 : fewB l = false := by simpa using hf
    rw [e0] at HFw
    clear hf h
    go_enter Try.func9, Try.ntmps9
    go_wp2_with fail
    rw [← hV]
    clear hV
    refine HFw.out.mono ?_
    rintro e w1 ⟨rfl, hw⟩
    subst hw
    go_wp2_with fail
    refine (awake34_any _).mono ?_
    rintro e wz ⟨rfl, bz⟩
    go_wp2_with fail
    go_ret
    exact ⟨rfl, below_step bV bz⟩
  rw [hf] at HFw
  obtain ⟨hn40, hx70⟩ := fewB_of hf
  clear hf h
  by_cases p0 : 1 ≤ a0
  case neg =>
    have hbad' : a0 < 1 := by omega
    clear p0
    go_enter Try.func9, Try.ntmps9
    go_wp2_with fail
    rw [← hV]
    clear hV
    refine HFw.out.mono ?_
    rintro e w1 ⟨rfl, hw⟩
    subst hw
    go_wp2_with fail
    refine (awake34_any _).mono ?_
    rintro e wz ⟨rfl, bz⟩
    go_wp2_with fail
    go_ret
    exact ⟨rfl, below_step bV bz⟩
  by_cases p1 : 0 ≤ a1
  case neg =>
    have hbad' : a1 < 0 := by omega
    clear p1
    go_enter Try.func9, Try.ntmps9
    go_wp2_with fail
    rw [← hV]
    clear hV
    refine HFw.out.mono ?_
    rintro e w1 ⟨rfl, hw⟩
    subst hw
    go_wp2_with fail
    refine (awake34_any _).mono ?_
    rintro e wz ⟨rfl, bz⟩
    go_wp2_with fail
    go_ret
    exact ⟨rfl, below_step bV bz⟩
  by_cases p2 : a1 ≤ 256
  case neg =>
    have hbad' : 256 < a1 := by omega
    clear p2
    go_enter Try.func9, Try.ntmps9
    go_wp2_with fail
    rw [← hV]
    clear hV
    refine HFw.out.mono ?_
    rintro e w1 ⟨rfl, hw⟩
    subst hw
    go_wp2_with fail
    refine (awake34_any _).mono ?_
    rintro e wz ⟨rfl, bz⟩
    go_wp2_with fail
    go_ret
    exact ⟨rfl, below_step bV bz⟩
  go_enter Try.func9, Try.ntmps9
  go_wp2_with fail
  rw [← hV]
  clear hV
  refine HFw.out.mono ?_
  rintro e w1 ⟨rfl, hw⟩
  subst hw
  go_wp2_with fail
  refine HNw.out.mono ?_
  rintro e w2 ⟨g, rfl, i2, b2⟩
  have HB2 := Lib.hid (below_step bV b2)
  have i2' : StorW.Is w2 W.heap.size g (Stor.new 40) := is_mono i2 bV.size
  have HFm := Lib.hid (fmt_any 20 40 g W w2 rfl (by omega) (by omega) HB2.out.size i2')
  have kV2 := kV.below b2 kV.lt
  have HKV2 := Lib.hid kV2
  clear i2 i2' b2 kV v0 v1 HNw kV2
  go_wp2_with fail
  refine HFm.out.mono ?_
  rintro e w3 ⟨jb, nx, st, s, rfl, hjb, hblk, his, hb3, hgood, hst, hwr, hkj⟩
  have kV3 : Blk w3 W.heap.size 73 #[.int .i64 a0, .int .i64 a1] := hkj _ _ _ _ (by decide) (by decide) (by decide) HKV2.out
  have v0 := kV3.cell 0
  have v1 := kV3.cell 1
  have HArm := Lib.hid (StorW.arm_any W.heap.size g s a0 a1 w3 his hgood.sound.ok)
  have HB3 := Lib.hid (HB2.out.trans hb3)
  have HGd := Lib.hid (Good.arm hgood a0 a1 (by omega))
  have HBl := Lib.hid hblk
  clear his hb3 hkj hblk HFm kV3 hgood
  go_wp2_with fail
  refine HArm.out.mono ?_
  rintro e w4 ⟨rfl, i4, b4, k4⟩
  have HI4 := Lib.hid i4
  have HRun := Lib.hid (run_any W jb g 20 l.length c A l fst5 (Stor.arm s a0 a1).1 nx st w4 HL.out hn40 hx70 (by omega) hjb ⟨HGd.out.1, k4.blk HBl.out (by decide) (by decide), i4, TxW.nil _ _, by omega, by omega, by simp, by rw [HGd.out.2]; omega, HB3.out.trans b4⟩)
  have HB4 := Lib.hid (HB3.out.trans b4)
  clear i4 b4 k4 HArm v0 v1
  go_wp2_with fail
  refine HRun.out.mono ?_
  rintro e w5 ⟨im, ev, wy, tn, A1, c1, A2, c2, s5, rfl, ht1, hev, ht2, i5, b5, hok5, hwr5, hE5, hwy, hend⟩
  have HB5 := Lib.hid (HB4.out.trans b5)
  have HOff := Lib.hid (StorW.off_any W.heap.size g s5 w5 i5 hok5)
  have HT1 := Lib.hid ht1
  have HT2 := Lib.hid ht2
  have HEnd := Lib.hid hend
  have HOk5 := Lib.hid hok5
  clear ht1 ht2 i5 b5 hend HRun
  go_wp2_with fail
  refine HOff.out.mono ?_
  rintro e w6 ⟨rfl, i6, b6, k6⟩
  have HBoot := Lib.hid (StorW.boot_any W.heap.size g (Stor.power s5 false) w6 i6 (Stor.power_ok HOk5.out false))
  have HB6 := Lib.hid (HB5.out.trans b6)
  have HK6 := Lib.hid (keepJ_s k6)
  clear i6 b6 k6 HOff
  go_wp2_with fail
  refine HBoot.out.mono ?_
  rintro e w7 ⟨rfl, i7, b7, k7⟩
  have HB7 := Lib.hid (HB6.out.trans b7)
  have HK7 := Lib.hid (HK6.out.trans (keepJ_s k7))
  obtain ⟨area, next, life, im2, ev2, hsnd, hsm, hlf, he2, hcase⟩ := HEnd.out
  have i7' : StorW.Is w7 W.heap.size g (again s5) := i7
  have hct := hsnd.inv.counts
  have HOp := Lib.hid (open_yes W.heap.size g (again s5) w7 i7' hsnd.ok hsnd.on (by show 4 ≤ s5.bs.length; omega) (by rw [hct]))
  rw [hct] at HOp
  have HCase := Lib.hid hcase
  clear i7 i7' b7 k7 HBoot hsnd hcase hct HEnd
  go_wp2_with fail
  refine HOp.out.mono ?_
  rintro e w8 ⟨kb, A3, c3, rfl, _, _, ht3, b8⟩
  have HB8 := Lib.hid (below_step HB7.out b8)
  have HE3 := Lib.hid ht3
  have HE1 := Lib.hid ((HT1.out.keepJ HK7.out).below b8)
  have HE2 := Lib.hid ((HT2.out.keepJ HK7.out).below b8)
  have hB7s := HB7.out.size
  simp only at HE3
  clear ht3 b8 HOp
  by_cases him : im2 = im
  case pos =>
    subst him
    have es : ((str im2).toList == (str im2).toList) = true := by rw [str_beq]; exact decide_eq_true rfl
    have HS := Lib.hid (HSame.out A3 A1 ev2.length ev.length c3 c1 ev2 ev w8 HE3.out.txs HE1.out.txs (by unfold maxLen; omega) (by unfold maxLen; omega))
    by_cases hev2 : ev2 = ev
    case pos =>
      rw [decide_eq_true hev2] at HS
      clear hev2 HCase
      go_wp2_with fail
      refine HS.out.mono ?_
      rintro e w9 ⟨rfl, d, hw9⟩
      have hb9 : Below W.heap.size W w9 := by rw [hw9]; exact below_drewN HB8.out d
      clear hw9

      go_wp2_with fail
      refine (awake34_any _).mono ?_
      rintro e wz ⟨rfl, bz⟩
      go_wp2_with fail
      go_ret
      exact ⟨rfl, below_step hb9 bz⟩
    case neg =>
      rw [decide_eq_false hev2] at HS
      rcases HCase.out with ⟨_, h⟩ | ⟨htn, hwye, hev2e⟩ | ⟨htn, x, hwye, _, hev2e⟩
      · exact absurd h hev2
      · subst htn hwye hev2e
        clear hev2 HCase
        go_wp2_with fail
        refine HS.out.mono ?_
        rintro e w9 ⟨rfl, d, hw9⟩
        have hb9 : Below W.heap.size W w9 := by rw [hw9]; exact below_drewN HB8.out d
        have he29 : TxW w9 W.heap.size A2 1 c2 [im2] := by rw [hw9]; exact HE2.out.below (below_drewN (Below.refl _ _) d)
        clear hw9
        have ht := TxW.txs he29
        obtain ⟨bb, off, sx, hA, hlt, hs0, hc0⟩ := ht.at_ (show 0 < 1 by omega)
        have hs1 : sx = im2 := by simpa using hs0.symm
        have hc1 : w9.cell? ⟨bb, off, none⟩ = some (.string (str im2)) := by rw [← hs1]; exact hc0
        skip
        subst hA
        clear hs0 ht hc0 hs1 HE2 HE1 HE3 he29 HS
        go_wp2_with fail
        refine (awake34_any _).mono ?_
        rintro e wz ⟨rfl, bz⟩
        go_wp2_with fail
        go_ret
        exact ⟨rfl, below_step hb9 bz⟩
      · subst htn hwye hev2e
        clear hev2 HCase
        have hlen9 : (ev ++ [x]).length = ev.length + 1 := by simp
        rw [hlen9] at HS
        have HLen9 := Lib.hid hlen9
        clear hlen9
        go_wp2_with fail
        refine HS.out.mono ?_
        rintro e w9 ⟨rfl, d, hw9⟩
        have hb9 : Below W.heap.size W w9 := by rw [hw9]; exact below_drewN HB8.out d
        have he19 : TxW w9 W.heap.size A1 ev.length c1 ev := by rw [hw9]; exact HE1.out.below (below_drewN (Below.refl _ _) d)
        have he29 : TxW w9 W.heap.size A2 1 c2 [x] := by rw [hw9]; exact HE2.out.below (below_drewN (Below.refl _ _) d)
        have he39 : TxW w9 w7.heap.size A3 (ev ++ [x]).length c3 (ev ++ [x]) := by rw [hw9]; exact HE3.out.below (below_drewN (Below.refl _ _) d)
        clear hw9
        obtain ⟨U, hU⟩ : ∃ U, U = w9.alloc (.cells #[] 9) := ⟨_, rfl⟩
        have bU : Below w9.heap.size w9 U := by rw [hU]; exact (Below.refl _ _).alloc (Nat.le_refl _) _
        have own0 : U.ownsRow w9.heap.size 9 1 (.slice (some ⟨w9.heap.size, 0, none⟩) 0 0) 0 [] := ⟨rfl, .inr ⟨w9.heap.size, 0, #[], rfl, Nat.le_refl _, by rw [hU]; exact World.alloc_heap_new _ _, by omega, by simp [maxLen], rfl, rfl⟩⟩
        have hcapn : ∀ (A : Option Addr) (n c : Nat) (l : List (List UInt8)) (w : World) (b : Nat), TxW w b A n c l → A = none → c = 0 := fun A n c l w b h e => by
          rcases h.shape with ⟨_, _, h3⟩ | ⟨g, _, h3, _⟩
          · exact h3
          · rw [e] at h3; cases h3
        have hone : ∀ (l : List (List UInt8)), ∀ u ∈ sv l, u.oneCell' = true := fun l u hu => by
          simp only [sv, List.mem_map] at hu
          obtain ⟨y, _, rfl⟩ := hu
          rfl
        obtain ⟨A5, c5, w5', hrun5, o5, hg5, b5', _⟩ := app_own (P := Try.prog) U w9.heap.size 34 34 9 i0 _ 1 16 Try.underlying34 hi0 hz0 hz1 hz2 rfl (by omega) _ 0 0 _ own0 A1 ev.length c1 (sv ev) (Rd.of_row (he19.below bU).txs) (hcapn _ _ _ _ _ _ he19) (hone _) (by unfold maxLen; omega) (by omega) bU.size
        rw [Nat.zero_add] at hrun5 o5
        rw [List.nil_append] at o5
        have b95 : Below w9.heap.size w9 w5' := bU.trans b5'
        have he25 : TxW w5' W.heap.size A2 1 c2 [x] := he29.below b95
        obtain ⟨A6, c6, w6', hrun6, o6, _, b6', _⟩ := app_own (P := Try.prog) w5' w9.heap.size 34 34 9 i0 _ 1 16 Try.underlying34 hi0 hz0 hz1 hz2 rfl (by omega) _ ev.length c5 _ o5 A2 1 c2 (sv [x]) (Rd.of_row he25.txs) (hcapn _ _ _ _ _ _ he25) (hone _) (by unfold maxLen; omega) (by omega) b95.size
        have b96 : Below w9.heap.size w9 w6' := b95.trans b6'
        have ht6 : Txs w6' A6 (ev.length + 1) (ev ++ [x]) := TxW.txs (base := w9.heap.size) (c := c6) (by unfold TxW; rw [show sv (ev ++ [x]) = sv ev ++ sv [x] by simp [sv]]; exact o6)
        have ht3 : Txs w6' A3 (ev.length + 1) (ev ++ [x]) := by rw [← HLen9.out]; exact (he39.below b96).txs
        have HS2 := Lib.hid (HSame.out A3 A6 (ev.length + 1) (ev.length + 1) c3 c6 (ev ++ [x]) (ev ++ [x]) w6' ht3 ht6 (by unfold maxLen; omega) (by unfold maxLen; omega))
        rw [decide_eq_true rfl] at HS2
        have HR5 := Lib.hid hrun5
        have HR6 := Lib.hid hrun6
        rw [hU] at HR5
        have hb96 : Below W.heap.size W w6' := below_step hb9 b96
        clear hrun5 hrun6 o5 o6 hU bU own0 hg5 b5' b95 he25 b6' b96 ht6 ht3 he19 he29 he39 HE1 HE2 HE3 HS hcapn hone
        go_wp2_with (at_builtin; go_guarded; first | (refine oper_app _ _ rfl rfl rfl HR5.out ?_; clear HR5) | refine oper_app _ _ rfl rfl rfl HR6.out ?_)
        refine HS2.out.mono ?_
        rintro e wy ⟨rfl, d2, hwy2⟩
        have hby : Below W.heap.size W wy := by rw [hwy2]; exact below_drewN hb96 d2
        clear hwy2
        go_wp2_with fail
        refine (awake34_any _).mono ?_
        rintro e wz ⟨rfl, bz⟩
        go_wp2_with fail
        go_ret
        exact ⟨rfl, below_step hby bz⟩
  case neg =>
    have es : ((str im2).toList == (str im).toList) = false := by rw [str_beq]; exact decide_eq_false him
    rcases HCase.out with ⟨h, _⟩ | ⟨htn, hwye, hev2e⟩ | ⟨_, _, _, h, _⟩
    · exact absurd h him
    · subst htn hwye hev2e
      clear him HCase
      have he29 := HE2.out
      have hb9 := HB8.out
      have ht := TxW.txs he29
      obtain ⟨bb, off, sx, hA, hlt, hs0, hc0⟩ := ht.at_ (show 0 < 1 by omega)
      have hs1 : sx = im2 := by simpa using hs0.symm
      have hc1 : w8.cell? ⟨bb, off, none⟩ = some (.string (str im2)) := by rw [← hs1]; exact hc0
      have es2 : ((str im2).toList == (str im2).toList) = true := by rw [str_beq]; exact decide_eq_true rfl
      subst hA
      clear hs0 ht hc0 hs1 HE2 HE1 HE3 he29 
      go_wp2_with fail
      refine (awake34_any _).mono ?_
      rintro e wz ⟨rfl, bz⟩
      go_wp2_with fail
      go_ret
      exact ⟨rfl, below_step hb9 bz⟩
    · exact absurd h him
end Go.Proofs.Ytdhnegcblnpmfaa.JrnW

namespace Go.Proofs.Ytdhnegcblnpmfaa.JrnW
open Go.RowKit Mem Jrn PackW FrameW
set_option linter.unusedVariables false
set_option linter.unusedSimpArgs false

set_option maxHeartbeats 20000000 in
set_option maxRecDepth 100000 in
theorem journalAgain_walk (A : Option Addr) (n c : Nat) (l : List Acj) (a0 a1 : Int) (body : List UInt8) (W : World) (h : Acjs W A n l) (hn : n ≤ maxLen) (hx : ∀ x ∈ l, x.tx.length ≤ maxLen) (hbd : body.length ≤ maxLen) (b0 : -9223372036854775808 ≤ a0 ∧ a0 ≤ 9223372036854775807) (b1 : -9223372036854775808 ≤ a1 ∧ a1 ≤ 9223372036854775807) :
    Calls Try.prog 10 #[.slice A n c, .agg #[.int .i64 a0, .int .i64 a1], .string (str body)] W fun e w' => e = .returned (.bool true) ∧ Below W.heap.size W w' := by
  have hl := h.len
  subst hl
  obtain ⟨V, hV⟩ : ∃ V, V = W.alloc (.cells #[.int .i64 a0, .int .i64 a1] 73) := ⟨_, rfl⟩
  have bV : Below W.heap.size W V := by rw [hV]; exact (Below.refl _ _).alloc (Nat.le_refl _) _
  have kV : Blk V W.heap.size 73 #[.int .i64 a0, .int .i64 a1] := by rw [hV]; exact Blk.new _ _ _
  have HFw := Lib.hid (few_any A l.length c l V (h.below bV) hn hx)
  have v0 := kV.cell 0
  have v1 := kV.cell 1
  have HL := Lib.hid h
  have HNw := Lib.hid (StorW.new_any 30 V (by omega) (by omega))
  have HSame := Lib.hid fun A B n m c d l k w h g hn hm => same_any A B n m c d l k w h g hn hm
  obtain ⟨i0, hi0, hz0, hz1, hz2⟩ := info_parts StorW.strInfo
  have hsz : (str body).size = body.length := str_size _
  have HBd := Lib.hid hbd
  clear hx hn
  by_cases hf : fewB l = true
  case neg =>
    have e0 : fewB l = false := by simpa using hf
    rw [e0] at HFw
    clear hf h hsz hbd
    go_enter Try.func10, Try.ntmps10
    go_wp2_with fail
    rw [← hV]
    clear hV
    refine HFw.out.mono ?_
    rintro e w1 ⟨rfl, hw⟩
    subst hw

    go_wp2_with fail
    refine (awake34_any _).mono ?_
    rintro e wz ⟨rfl, bz⟩
    go_wp2_with fail
    go_ret
    exact ⟨rfl, below_step bV bz⟩
  rw [hf] at HFw
  obtain ⟨hn40, hx70⟩ := fewB_of hf
  clear hf h
  by_cases p0 : 1 ≤ a0
  case neg =>
    have hbad' : a0 < 1 := by omega
    clear p0 hsz hbd
    go_enter Try.func10, Try.ntmps10
    go_wp2_with fail
    rw [← hV]
    clear hV
    refine HFw.out.mono ?_
    rintro e w1 ⟨rfl, hw⟩
    subst hw

    go_wp2_with fail
    refine (awake34_any _).mono ?_
    rintro e wz ⟨rfl, bz⟩
    go_wp2_with fail
    go_ret
    exact ⟨rfl, below_step bV bz⟩
  by_cases p1 : 0 ≤ a1
  case neg =>
    have hbad' : a1 < 0 := by omega
    clear p1 hsz hbd
    go_enter Try.func10, Try.ntmps10
    go_wp2_with fail
    rw [← hV]
    clear hV
    refine HFw.out.mono ?_
    rintro e w1 ⟨rfl, hw⟩
    subst hw

    go_wp2_with fail
    refine (awake34_any _).mono ?_
    rintro e wz ⟨rfl, bz⟩
    go_wp2_with fail
    go_ret
    exact ⟨rfl, below_step bV bz⟩
  by_cases p2 : a1 ≤ 256
  case neg =>
    have hbad' : 256 < a1 := by omega
    clear p2 hsz hbd
    go_enter Try.func10, Try.ntmps10
    go_wp2_with fail
    rw [← hV]
    clear hV
    refine HFw.out.mono ?_
    rintro e w1 ⟨rfl, hw⟩
    subst hw

    go_wp2_with fail
    refine (awake34_any _).mono ?_
    rintro e wz ⟨rfl, bz⟩
    go_wp2_with fail
    go_ret
    exact ⟨rfl, below_step bV bz⟩
  by_cases p3 : body.length ≤ 2000
  case neg =>
    have e2 : decide ((2000 : Int) < ((str body).size : Int)) = true := decide_eq_true (by rw [hsz]; unfold maxLen at hbd; omega)
    have e3 : decide ((2000 : Int) < (body.length : Int)) = true := decide_eq_true (by unfold maxLen at hbd; omega)
    have hbad' : 2000 < body.length := by omega
    unfold maxLen at hbd
    clear p3
    go_enter Try.func10, Try.ntmps10
    go_wp2_with fail
    rw [← hV]
    clear hV
    refine HFw.out.mono ?_
    rintro e w1 ⟨rfl, hw⟩
    subst hw

    go_wp2_with fail
    refine (awake34_any _).mono ?_
    rintro e wz ⟨rfl, bz⟩
    go_wp2_with fail
    go_ret
    exact ⟨rfl, below_step bV bz⟩
  have e2 : decide ((2000 : Int) < ((str body).size : Int)) = false := decide_eq_false (by rw [hsz]; omega)
  have e3 : decide ((2000 : Int) < (body.length : Int)) = false := decide_eq_false (by omega)
  clear hbd
  go_enter Try.func10, Try.ntmps10
  go_wp2_with fail
  rw [← hV]
  clear hV
  refine HFw.out.mono ?_
  rintro e w1 ⟨rfl, hw⟩
  subst hw
  go_wp2_with fail
  refine HNw.out.mono ?_
  rintro e w2 ⟨g, rfl, i2, b2⟩
  have HB2 := Lib.hid (below_step bV b2)
  have i2' : StorW.Is w2 W.heap.size g (Stor.new 30) := is_mono i2 bV.size
  have HFm := Lib.hid (fmt_any 15 30 g W w2 rfl (by omega) (by omega) HB2.out.size i2')
  have kV2 := kV.below b2 kV.lt
  have HKV2 := Lib.hid kV2
  clear i2 i2' b2 kV v0 v1 HNw kV2
  go_wp2_with fail
  refine HFm.out.mono ?_
  rintro e w3 ⟨jb, nx, st, s, rfl, hjb, hblk, his, hb3, hgood, hst, hwr, hkj⟩
  have kV3 : Blk w3 W.heap.size 73 #[.int .i64 a0, .int .i64 a1] := hkj _ _ _ _ (by decide) (by decide) (by decide) HKV2.out
  have v0 := kV3.cell 0
  have v1 := kV3.cell 1
  have HArm := Lib.hid (StorW.arm_any W.heap.size g s a0 a1 w3 his hgood.sound.ok)
  have HB3 := Lib.hid (HB2.out.trans hb3)
  have HGd := Lib.hid (Good.arm hgood a0 a1 (by omega))
  have HBl := Lib.hid hblk
  clear his hb3 hkj hblk HFm kV3 hgood
  go_wp2_with fail
  refine HArm.out.mono ?_
  rintro e w4 ⟨rfl, i4, b4, k4⟩
  have HI4 := Lib.hid i4
  have HRun := Lib.hid (run_any W jb g 15 l.length c A l fst5 (Stor.arm s a0 a1).1 nx st w4 HL.out hn40 hx70 (by omega) hjb ⟨HGd.out.1, k4.blk HBl.out (by decide) (by decide), i4, TxW.nil _ _, by omega, by omega, by simp, by rw [HGd.out.2]; omega, HB3.out.trans b4⟩)
  have HB4 := Lib.hid (HB3.out.trans b4)
  clear i4 b4 k4 HArm v0 v1
  go_wp2_with fail
  refine HRun.out.mono ?_
  rintro e w5 ⟨im, ev, wy, tn, A1, c1, A2, c2, s5, rfl, ht1, hev, ht2, i5, b5, hok5, hwr5, hE5, hwy, hend⟩
  have HB5 := Lib.hid (HB4.out.trans b5)
  have HOff := Lib.hid (StorW.off_any W.heap.size g s5 w5 i5 hok5)
  have HEnd := Lib.hid hend
  have HOk5 := Lib.hid hok5
  clear ht1 ht2 i5 b5 hend HRun hwy hev
  go_wp2_with fail
  refine HOff.out.mono ?_
  rintro e w6 ⟨rfl, i6, b6, k6⟩
  have HBoot := Lib.hid (StorW.boot_any W.heap.size g (Stor.power s5 false) w6 i6 (Stor.power_ok HOk5.out false))
  have HB6 := Lib.hid (HB5.out.trans b6)
  clear i6 b6 k6 HOff
  go_wp2_with fail
  refine HBoot.out.mono ?_
  rintro e w7 ⟨rfl, i7, b7, k7⟩
  have HB7 := Lib.hid (HB6.out.trans b7)
  obtain ⟨area, next, life, im2, ev2, hsnd, hsm, hlf, he2, _⟩ := HEnd.out
  obtain ⟨s6, hs6⟩ : ∃ s6, s6 = again s5 := ⟨_, rfl⟩
  have hwr6 : s6.wr ≤ 1000 := by rw [hs6]; exact hwr5
  have hE6 : s6.bs.length = 2 * 15 := by rw [hs6]; exact hE5
  have hlft : s6.left = 0 := by rw [hs6]; rfl
  have i7' : StorW.Is w7 W.heap.size g s6 := by rw [hs6]; exact i7
  obtain ⟨st6, hst6⟩ : ∃ st6, st6 = Jrn.stamped s5.bs := ⟨_, rfl⟩
  have hst6' : Jrn.stamped s6.bs = st6 := by rw [hs6, hst6]; rfl
  rw [← hs6, ← hst6] at hsnd
  rw [← hst6] at hsm
  have hct := hsnd.inv.counts
  rw [hst6'] at hct
  have HWr := Lib.hid (StorW.writes_any W.heap.size g s6 w7 i7' hsnd.ok)
  have HOp := Lib.hid (open_yes W.heap.size g s6 w7 i7' hsnd.ok hsnd.on (by omega) (by rw [hct]))
  rw [hct] at HOp
  have HCt := Lib.hid hct
  have HI7 := Lib.hid i7'
  have HSn := Lib.hid hsnd
  have HOk := hsnd.ok.few
  clear i7 i7' b7 k7 HBoot hct HEnd hs6 hst6 hst6' hsnd
  go_wp2_with fail
  refine HWr.out.mono ?_
  rintro e w7' ⟨rfl, hw⟩
  subst hw
  go_wp2_with fail
  refine HOp.out.mono ?_
  rintro e w8 ⟨jb2, A3, c3, rfl, _, _, ht3, b8⟩
  have HB8 := Lib.hid (below_step HB7.out b8)
  have i8 := HI7.out.below b8
  have HOp2 := Lib.hid (open_yes W.heap.size g s6 w8 i8 HSn.out.ok HSn.out.on (by omega) (by rw [HCt.out]))
  rw [HCt.out] at HOp2
  have HI8 := Lib.hid i8
  have HT3 := Lib.hid ht3
  have hB7s := HB7.out.size
  simp only at HT3
  clear i8 ht3 b8 HOp HWr
  go_wp2_with fail
  refine HOp2.out.mono ?_
  rintro e w9 ⟨kb, A4, c4, rfl, hkb, hblk, ht4, b9⟩
  have hB8s := HB8.out.size
  have HB9 := Lib.hid (below_step HB8.out b9)
  have i9 := HI8.out.below b9
  have HT4 := Lib.hid ht4
  have HT39 := Lib.hid (HT3.out.below b9)
  have HBk := Lib.hid hblk
  have HI9 := Lib.hid i9
  simp only at HT4 HBk
  have HS := Lib.hid (HSame.out A3 A4 ev2.length ev2.length c3 c4 ev2 ev2 w9 HT39.out.txs HT4.out.txs (by unfold maxLen; omega) (by unfold maxLen; omega))
  rw [decide_eq_true rfl] at HS
  have HWr2 := Lib.hid fun d => StorW.writes_any W.heap.size g s6 (w9.drewN d) (HI9.out.drewN d) HSn.out.ok
  have es : ((str im2).toList == (str im2).toList) = true := by rw [str_beq]; exact decide_eq_true rfl
  have es1 : ((str im2).toList != (str im2).toList) = false := by unfold bne; rw [es]; rfl
  clear i9 ht4 hblk b9 HOp2 HI8 HI7
  go_wp2_with fail
  refine HS.out.mono ?_
  rintro e w10 ⟨rfl, d, hw10⟩
  subst hw10
  go_wp2_with fail
  refine (HWr2.out d).mono ?_
  rintro e w11 ⟨rfl, hw⟩
  subst hw
  have hiv := HSn.out.inv
  have har := hiv.ar
  have hnx1 := hiv.chain.le.2 (by simp)
  have hnx2 : (area + 1) * 15 ≤ 2 * 15 := Nat.mul_le_mul_right _ (by omega)
  have hlf1 := hiv.life1
  have hst1 := HSn.out.st1
  have hnd : need body ≤ 255 := by unfold need; omega
  have hbs : (str body).size ≤ 1000000 := by rw [hsz]; omega
  have hhalf : s6.bs.length / 2 = 15 := by omega
  clear hiv
  rcases fitsE_of (need body) (LeftI area next s6.bs.length) with ⟨hf, hf1, hf2⟩ | hf | hf
  · have hleft : need body ≤ (((area + 1) * 15 : Nat) : Int) - next := by unfold LeftI at hf2; rw [hhalf] at hf2; exact hf2
    obtain ⟨hre, hlf7, hs7, hat⟩ := HSn.out.append (body := body) hlft (by omega) (by omega) (by omega) hf1 hleft
    have HA := Lib.hid (append_yes kb W.heap.size g area next s6 st6 life ev2.length (str body) (w9.drewN d) (HBk.out.drewN d) (Nat.le_trans HB8.out.size hkb) (HI9.out.drewN d) HSn.out.ok (by omega) har (by omega) (by omega) hbs (by omega) (by omega) (by rw [str_data]; exact hf1) (by rw [str_data]; exact hf) (by rw [str_data]; exact hat) hst1 (by omega))
    rw [str_data] at HA
    have hlen2 := layS_len s6 next st6 (Frm.put life ((ev2.length + 1 : Nat) : Int) body).1 (parts (Frm.put life ((ev2.length + 1 : Nat) : Int) body).1)
    obtain ⟨np, hnp⟩ : ∃ np, np = parts (Frm.put life ((ev2.length + 1 : Nat) : Int) body).1 := ⟨_, rfl⟩
    rw [← hnp] at HA hre hs7 hlen2
    obtain ⟨r, hr⟩ : ∃ r, r = layS s6 next st6 (Frm.put life ((ev2.length + 1 : Nat) : Int) body).1 np := ⟨_, rfl⟩
    rw [← hr] at HA hre hs7 hlen2
    obtain ⟨rs, re⟩ := r
    simp only at hre hs7 hlen2
    subst hre
    have HS7 := Lib.hid hs7
    obtain ⟨evN, hevN⟩ : ∃ evN, evN = ev2 ++ [body] := ⟨_, rfl⟩
    rw [← hevN] at HS7
    have HEvN := Lib.hid hevN
    have HLenN : Hid (evN.length = ev2.length + 1) := by show _ = _; rw [hevN]; simp
    have HLen2 := Lib.hid hlen2
    clear hf hf1 hf2 hleft hlf7 hs7 hat hnp hr hlen2 hevN
    go_wp2_with fail
    refine HA.out.mono ?_
    rintro e w12 ⟨rfl, hblk, his, hb12, hk12⟩
    simp only at his
    have hct7 := HS7.out.inv.counts
    have HOp3 := Lib.hid (open_yes W.heap.size g rs w12 his HS7.out.ok HS7.out.on (by rw [HLen2.out]; omega) (by rw [hct7]))
    rw [hct7] at HOp3
    have HB12 := Lib.hid ((below_drewN HB9.out d).trans hb12)
    have HT312 := Lib.hid ((HT39.out.below (below_drewN (Below.refl _ _) d)).keepJ hk12)
    clear hblk his hb12 hk12 hct7 HA
    go_wp2_with fail
    refine HOp3.out.mono ?_
    rintro e w13 ⟨jb3, A5, c5, rfl, _, _, ht5, b13⟩
    have HB13 := Lib.hid (below_step HB12.out b13)
    simp only at ht5
    have ht313 := HT312.out.below b13
    obtain ⟨U, hU⟩ : ∃ U, U = w13.alloc (.cells #[] 9) := ⟨_, rfl⟩
    have bU : Below w13.heap.size w13 U := by rw [hU]; exact (Below.refl _ _).alloc (Nat.le_refl _) _
    have own0 : U.ownsRow w13.heap.size 9 1 (.slice (some ⟨w13.heap.size, 0, none⟩) 0 0) 0 [] := ⟨rfl, .inr ⟨w13.heap.size, 0, #[], rfl, Nat.le_refl _, by rw [hU]; exact World.alloc_heap_new _ _, by omega, by simp [maxLen], rfl, rfl⟩⟩
    have hcapn : ∀ (A : Option Addr) (n c : Nat) (l : List (List UInt8)) (w : World) (b : Nat), TxW w b A n c l → A = none → c = 0 := fun A n c l w b h e => by
      rcases h.shape with ⟨_, _, h3⟩ | ⟨g, _, h3, _⟩
      · exact h3
      · rw [e] at h3; cases h3
    have hone : ∀ (l : List (List UInt8)), ∀ u ∈ sv l, u.oneCell' = true := fun l u hu => by
      simp only [sv, List.mem_map] at hu
      obtain ⟨y, _, rfl⟩ := hu
      rfl
    obtain ⟨A6, c6, w14, hrun5, o6, hg6, b14', _⟩ := app_own (P := Try.prog) U w13.heap.size 34 34 9 i0 _ 1 16 Try.underlying34 hi0 hz0 hz1 hz2 rfl (by omega) _ 0 0 _ own0 A3 ev2.length c3 (sv ev2) (Rd.of_row (ht313.below bU).txs) (hcapn _ _ _ _ _ _ ht313) (hone _) (by unfold maxLen; omega) (by omega) bU.size
    rw [Nat.zero_add] at hrun5 o6
    rw [List.nil_append] at o6
    have b14 : Below w13.heap.size w13 w14 := bU.trans b14'
    have t6 : TxW w14 w13.heap.size A6 ev2.length c6 ev2 := by unfold TxW; exact o6
    obtain ⟨X, hX⟩ : ∃ X, X = w14.alloc (.cells #[.string (str body)] 9) := ⟨_, rfl⟩
    have bX : Below w14.heap.size w14 X := by rw [hX]; exact (Below.refl _ _).alloc (Nat.le_refl _) _
    have hrd : Rd X (some ⟨w14.heap.size, 0, none⟩) 1 1 [.string (str body)] := by rw [hX]; exact Rd.one w14 (.string (str body)) 9
    obtain ⟨A7, c7, w15, hrun6, o7, _, b15', _⟩ := app_own (P := Try.prog) X w13.heap.size 34 34 9 i0 _ 1 16 Try.underlying34 hi0 hz0 hz1 hz2 rfl (by omega) A6 ev2.length c6 _ (t6.below bX) (some ⟨w14.heap.size, 0, none⟩) 1 1 _ hrd (by simp) (by simp; rfl) (by simp [maxLen]; omega) (by omega) (Nat.le_trans b14.size bX.size)
    have bX13 : Below w13.heap.size w13 X := b14.trans (bX.mono b14.size)
    have b15 : Below w13.heap.size w13 w15 := bX13.trans b15'
    have ht7 : Txs w15 A7 (ev2.length + 1) evN := by
      rw [HEvN.out]
      exact TxW.txs (base := w13.heap.size) (c := c7) (by unfold TxW; rw [show sv (ev2 ++ [body]) = sv ev2 ++ [.string (str body)] by simp [sv]]; exact o7)
    have ht5' : Txs w15 A5 evN.length evN := (ht5.below b15).txs
    have HS2 := Lib.hid (HSame.out A5 A7 evN.length (ev2.length + 1) c5 c7 evN evN w15 ht5' ht7 (by rw [HLenN.out]; unfold maxLen; omega) (by unfold maxLen; omega))
    rw [decide_eq_true rfl] at HS2
    have HR5 := Lib.hid hrun5
    have HR6 := Lib.hid hrun6
    rw [hU] at HR5
    rw [hX] at HR6
    have hb15 : Below W.heap.size W w15 := below_step HB13.out b15
    clear hrun5 hrun6 o6 o7 hU bU own0 hg6 b14' b14 t6 hX bX hrd b15' b15 bX13 ht7 ht5' ht5 ht313 b13 hcapn hone HOp3
    go_wp2_with (at_builtin; go_guarded; first | (refine oper_app _ _ rfl rfl rfl HR5.out ?_; clear HR5) | refine oper_app _ _ rfl rfl rfl HR6.out ?_)
    refine HS2.out.mono ?_
    rintro e wy ⟨rfl, d2, hwy2⟩
    have hby : Below W.heap.size W wy := by rw [hwy2]; exact below_drewN hb15 d2
    clear hwy2
    go_wp2_with fail
    refine (awake34_any _).mono ?_
    rintro e wz ⟨rfl, bz⟩
    go_wp2_with fail
    go_ret
    exact ⟨rfl, below_step hby bz⟩
  · exfalso
    unfold fitsE at hf
    rw [if_neg (by omega)] at hf
    split at hf <;> omega
  · have HA := Lib.hid (append_no kb W.heap.size g area next s6 st6 life ev2.length 341 (str body) (w9.drewN d) (HBk.out.drewN d) (HI9.out.drewN d) HSn.out.ok har (by omega) hbs (by rw [str_data]; exact hf) (by omega))
    clear hf
    go_wp2_with fail
    refine HA.out.mono ?_
    rintro e w12 ⟨rfl, m, hm⟩
    have hb12 : Below W.heap.size W w12 := by rw [hm]; exact below_drewN (below_drewN HB9.out d) m
    clear hm
    go_wp2_with fail
    refine (awake34_any _).mono ?_
    rintro e wz ⟨rfl, bz⟩
    go_wp2_with fail
    go_ret
    exact ⟨rfl, below_step hb12 bz⟩
end Go.Proofs.Ytdhnegcblnpmfaa.JrnW

namespace Go.Proofs.Ytdhnegcblnpmfaa.JrnW
open Go.ChangeShapes Go.WideShapes Go.ChangeAt Go.RowKit Go.Deep Mem
set_option linter.unusedVariables false

section
variable {H : Type} {enc : TypeId × Value → H} {w : World} {base : Nat} {spare : Nat → Bool} {held : Bool}
theorem open_acjs {a0 : Option Addr} {len0 cap0 : Nat} {d : DataW H} {p : List MemPlace} (h : DataW.Trod enc Try.prog w base spare held 72 (.slice a0 len0 cap0) d p) :
    ∃ l, Acjs w a0 len0 l ∧ len0 ≤ maxLen ∧ ∀ x ∈ l, x.tx.length ≤ maxLen := by
  obtain ⟨hm, rows, hrows, hf⟩ := open_rows Try.underlying72 Try.underlying96 (by kernel_rfl) (by kernel_rfl) (by decide) h
  obtain ⟨l, rfl, hl⟩ := exists_map acjRow (fun x => x.tx.length ≤ maxLen) rows (fun r hr => by
    obtain ⟨v0, v1, v2, v3, rfl⟩ := list4 (hrows.each r hr)
    obtain ⟨u0, n0, y0, e0, t0⟩ := hf _ hr 0 _ rfl
    obtain ⟨u1, n1, y1, e1, t1⟩ := hf _ hr 1 _ rfl
    obtain ⟨u2, n2, y2, e2, t2⟩ := hf _ hr 2 _ rfl
    obtain ⟨u3, n3, y3, e3, t3⟩ := hf _ hr 3 _ rfl
    simp at e0 e1 e2 e3
    subst e0 e1 e2 e3
    obtain ⟨z0, q0, _, w0⟩ := DataW.trod_int Try.underlying3 t0
    obtain ⟨z1, q1, _, w1⟩ := DataW.trod_int Try.underlying3 t1
    obtain ⟨z2, q2, _, w2⟩ := DataW.trod_int Try.underlying3 t2
    obtain ⟨s, q3, _, w3⟩ := DataW.trod_string Try.underlying9 t3
    simp at q0 q1 q2 q3
    subst q0 q1 q2 q3
    exact ⟨⟨z0, z1, z2, s.data.toList⟩, by rfl, by show s.data.toList.length ≤ _; rw [Array.length_toList]; exact w3⟩)
  exact ⟨l, hrows, hm, hl⟩
set_option maxRecDepth 100000 in
/-- where the power goes -/
theorem open_two {r : Reach} {b0 : Nat} {v : Value} {d : DataW H} {p : List MemPlace} (hv : Value.okWide Try.prog w r b0 73 v) (h : DataW.Trod enc Try.prog w base spare held 73 v d p) :
    ∃ a : Int × Int, v = .agg #[.int .i64 a.1, .int .i64 a.2] ∧ (-9223372036854775808 ≤ a.1 ∧ a.1 ≤ 9223372036854775807) ∧ (-9223372036854775808 ≤ a.2 ∧ a.2 ≤ 9223372036854775807) := by
  obtain ⟨cs, rfl, hsz, _⟩ : ∃ cs, v = .agg cs ∧ cs.size = Try.prog.cellsOf 73 ∧ Row.okWide Try.prog w r b0 73 cs := by
    simpa [Value.okWide, Try.underlying73] using hv
  obtain ⟨c0, c1, rfl⟩ := Joins.array2 (hsz.trans (by kernel_rfl))
  obtain ⟨fuel, hf⟩ := h
  obtain ⟨xs, m, _, _, _, hxl, hget⟩ := DataW.trod_array Try.underlying73 hf
  obtain ⟨y0, y1, rfl⟩ := list2 hxl
  have h0 := hget 0 (by omega)
  have h1 := hget 1 (by omega)
  have hc1 : Try.prog.cellsOf 3 = 1 := by kernel_rfl
  rw [hc1] at h0 h1
  have h0' : DataW.trod enc Try.prog w base spare held m 3 [c0] = some y0 := h0
  have h1' : DataW.trod enc Try.prog w base spare held m 3 [c1] = some y1 := h1
  obtain ⟨z0, q0, _, w0⟩ := DataW.trod_int Try.underlying3 h0'
  obtain ⟨z1, q1, _, w1⟩ := DataW.trod_int Try.underlying3 h1'
  simp at q0 q1
  subst q0 q1
  exact ⟨(z0, z1), rfl, bounds_i64 w0, bounds_i64 w1⟩
end
end Go.Proofs.Ytdhnegcblnpmfaa.JrnW
