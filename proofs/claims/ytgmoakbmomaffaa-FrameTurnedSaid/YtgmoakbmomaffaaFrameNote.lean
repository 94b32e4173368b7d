/-
  Contracts: note.known, note.Check; frame.Check.
-/
import Derived.Test.YtgmoakbmomaffaaFrameEvPlain
import Derived.Test.YtgmoakbmomaffaaFrameRCut
namespace Go.Proofs.Ytgmoakbmomaffaa.FrameW
open Go.RowKit Mem Frm PackW
set_option linter.unusedVariables false
set_option linter.unusedSimpArgs false

theorem known_any (k : Int) (w : World) : Calls Try.prog 64 #[.int .i64 k] w fun e w' => e = .returned (.bool (knownB k)) ∧ w = w' := by
  by_cases h1 : 1 ≤ k
  · have HV : Hid (knownB k = decide (k ≤ 14)) := by show _ = _; simp [knownB, h1]
    go_enter Try.func64, Try.ntmps64
    go_wp2_with fail
    go_ret
    exact ⟨ret_bool HV.out.symm, rfl⟩
  · have h' : k < 1 := by omega
    have HV : Hid (knownB k = false) := by show _ = _; simp [knownB, h1]
    go_enter Try.func64, Try.ntmps64
    go_wp2_with fail
    go_ret
    exact ⟨ret_bool HV.out.symm, rfl⟩
def noteE (k n j e : Int) : Int := if noteB k n j e then 0 else 230
abbrev nO (k n j e : Int) : Obj := .cells #[.int .i64 k, .int .i64 n, .int .i64 j, .int .i64 e] 71
set_option maxHeartbeats 4000000 in
set_option maxRecDepth 100000 in
theorem ncheck_any (k n j e : Int) (w : World) : Calls Try.prog 61 #[.agg #[.int .i64 k, .int .i64 n, .int .i64 j, .int .i64 e]] w fun en w' => en = .returned (.int .i64 (noteE k n j e)) ∧ w' = w.alloc (nO k n j e) := by
  obtain ⟨V, hV⟩ : ∃ V, V = w.alloc (nO k n j e) := ⟨_, rfl⟩
  have kV : Blk V w.heap.size 71 #[.int .i64 k, .int .i64 n, .int .i64 j, .int .i64 e] := by rw [hV]; exact Blk.new _ _ _
  obtain ⟨x0, x1, x2, x3⟩ := blk4 kV
  have HK := Lib.hid (known_any k V)
  rw [← hV]
  go_enter Try.func61, Try.ntmps61
  go_upto_region 1 with fail
  rw [← hV]
  clear hV kV
  go_cut [3] (fun X wx => X = .bool (fenceB k) ∧ V = wx)
  case first =>
    by_cases h6 : k = 6
    · have e6 : (k == 6) = true := by simp [h6]
      have HV : Hid (fenceB k = true) := by show _ = _; simp [fenceB, h6]
      clear h6
      go_wp2_with fail
      go_meet
      exact ⟨by rw [HV.out], rfl⟩
    · have e6 : (k == 6) = false := by simpa using h6
      have HV : Hid (fenceB k = (k == 13)) := by show _ = _; simp [fenceB, e6]
      clear h6
      go_wp2_with fail
      go_meet
      exact ⟨by rw [HV.out], rfl⟩
  case rest =>
    obtain ⟨rfl, rfl⟩ := hcut
    go_upto_region 2 with fail
    go_cut [4] (fun X wx => X = .bool (decide (1 ≤ j) && decide (j ≤ 99999)) ∧ V = wx)
    case first =>
      by_cases h1 : 1 ≤ j
      · have HV : Hid ((decide (1 ≤ j) && decide (j ≤ 99999)) = decide (j ≤ 99999)) := by show _ = _; simp [h1]
        go_wp2_with fail
        go_meet
        exact ⟨by rw [HV.out], rfl⟩
      · have h' : j < 1 := by omega
        have HV : Hid ((decide (1 ≤ j) && decide (j ≤ 99999)) = false) := by show _ = _; simp [h1]
        go_wp2_with fail
        go_meet
        exact ⟨by rw [HV.out], rfl⟩
    case rest =>
      obtain ⟨rfl, rfl⟩ := hcut
      obtain ⟨jb, hjb⟩ : ∃ jb, jb = (decide (1 ≤ j) && decide (j ≤ 99999)) := ⟨_, rfl⟩
      rw [← hjb]
      have HJb : Hid (jobB k j = if fenceB k then j == 0 else jb) := by show _ = _; rw [jobB, hjb]
      obtain ⟨fb, hfb⟩ : ∃ fb, fb = fenceB k := ⟨_, rfl⟩
      rw [← hfb] at HJb ⊢
      clear hjb hfb
      go_upto_if 21 with fail
      go_cut [4] (fun X wx => X = .bool (jobB k j) ∧ V = wx)
      case first =>
        cases fb
        · have HV : Hid (jobB k j = jb) := HJb.out
          go_wp2_with fail
          go_meet
          exact ⟨by rw [HV.out], rfl⟩
        · have HV : Hid (jobB k j = (j == 0)) := HJb.out
          go_wp2_with fail
          go_meet
          exact ⟨by rw [HV.out], rfl⟩
      case rest =>
        obtain ⟨rfl, rfl⟩ := hcut
        have HNo : ∀ b : Bool, noteB k n j e = b → noteE k n j e = if b then 0 else 230 := fun b h => by rw [noteE, h]
        have HNB : Hid (noteB k n j e = (knownB k && jobB k j && !(decide (n < 0)) && !(decide (48 ≤ n)) && !(decide (e < 0)) && !(decide (999999999 < e)))) := rfl
        obtain ⟨kb, hkb⟩ : ∃ kb, kb = knownB k := ⟨_, rfl⟩
        obtain ⟨jb2, hjb2⟩ : ∃ jb2, jb2 = jobB k j := ⟨_, rfl⟩
        rw [← hkb] at HK HNB
        rw [← hjb2] at HNB ⊢
        have HN := Lib.hid HNo
        clear hkb hjb2 HNo
        cases kb
        · go_wp2_with fail
          refine HK.out.mono ?_
          rintro en w1 ⟨rfl, rfl⟩
          go_wp2_with fail
          go_ret
          exact ⟨ret_int (HN.out false (by rw [HNB.out]; simp)).symm, rfl⟩
        cases jb2
        · go_wp2_with fail
          refine HK.out.mono ?_
          rintro en w1 ⟨rfl, rfl⟩
          go_wp2_with fail
          go_ret
          exact ⟨ret_int (HN.out false (by rw [HNB.out]; simp)).symm, rfl⟩
        by_cases c2 : n < 0
        · go_wp2_with fail
          refine HK.out.mono ?_
          rintro en w1 ⟨rfl, rfl⟩
          go_wp2_with fail
          go_ret
          exact ⟨ret_int (HN.out false (by rw [HNB.out]; simp [c2])).symm, rfl⟩
        have c2' : 0 ≤ n := by omega
        by_cases c3 : 48 ≤ n
        · go_wp2_with fail
          refine HK.out.mono ?_
          rintro en w1 ⟨rfl, rfl⟩
          go_wp2_with fail
          go_ret
          exact ⟨ret_int (HN.out false (by rw [HNB.out]; simp [c3])).symm, rfl⟩
        have c3' : n < 48 := by omega
        by_cases c4 : e < 0
        · go_wp2_with fail
          refine HK.out.mono ?_
          rintro en w1 ⟨rfl, rfl⟩
          go_wp2_with fail
          go_ret
          exact ⟨ret_int (HN.out false (by rw [HNB.out]; simp [c4])).symm, rfl⟩
        have c4' : 0 ≤ e := by omega
        by_cases c5 : 999999999 < e
        · go_wp2_with fail
          refine HK.out.mono ?_
          rintro en w1 ⟨rfl, rfl⟩
          go_wp2_with fail
          go_ret
          exact ⟨ret_int (HN.out false (by rw [HNB.out]; simp [c5])).symm, rfl⟩
        have c5' : e ≤ 999999999 := by omega
        go_wp2_with fail
        refine HK.out.mono ?_
        rintro en w1 ⟨rfl, rfl⟩
        go_wp2_with fail
        go_ret
        exact ⟨ret_int (HN.out true (by rw [HNB.out]; simp; omega)).symm, rfl⟩
end Go.Proofs.Ytgmoakbmomaffaa.FrameW
