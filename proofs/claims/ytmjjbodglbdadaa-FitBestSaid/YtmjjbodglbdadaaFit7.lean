/-
  Contracts of musterref11: Best.
-/
import Derived.Test.YtmjjbodglbdadaaFit6
namespace Go.Proofs.Ytmjjbodglbdadaa.ProfW
open Go.RowKit Go.Deep Mem Prof
set_option linter.unusedVariables false

/-- an option that is asked for as may be, as the document looks at it -/
theorem placeT_in {p : List Stp} {fr latest grace : Int} {a : Stp} (hg0 : 0 ≤ grace) (h1 : 1 ≤ a.2) (h2 : a.2 ≤ 1000000) (h3 : grace ≤ 1000000 - a.2) : placeT p fr latest grace a = ((earl p fr (a.2 + grace) a.1).getD 0, (earl p fr (a.2 + grace) a.1).isSome && decide ((earl p fr (a.2 + grace) a.1).getD 0 ≤ latest)) := by
  unfold placeT
  by_cases hk : askB a.2 a.1 = true
  · rw [if_pos ⟨hk, h3⟩]
  · rw [if_neg (fun h => hk h.1)]
    have hn : askB (a.2 + grace) a.1 = false := by
      cases hb : askB (a.2 + grace) a.1
      · rfl
      · obtain ⟨q1, q2, q3, q4⟩ := ask_iff.1 hb
        exact absurd (ask_iff.2 ⟨q1, q2, h1, h2⟩) hk
    rw [earl_no (.inr hn)]
    rfl
theorem placeT_off {p : List Stp} {fr latest grace : Int} {a : Stp} (h : a.2 < 1 ∨ 1000000 < a.2 ∨ 1000000 - a.2 < grace) : placeT p fr latest grace a = (0, false) := by
  unfold placeT
  rw [if_neg]
  rintro ⟨hk, h3⟩
  obtain ⟨_, _, q3, q4⟩ := ask_iff.1 hk
  omega
def RBst (opts : List Stp) (s : Bst) (x y z : Value) : Prop :=
  (s.fd = false ∧ s.ch = 0 ∧ s.st = 0 ∧ x = .int .i64 (-1) ∧ y = .int .i64 0 ∧ z = .int .i64 0) ∨ (s.fd = true ∧ x = .int .i64 s.ch ∧ y = .int .i64 s.st ∧ z = .int .i64 (s.st + optW opts s.ch))
def RBRel (w : World) (p : List Stp) (fr latest grace : Int) (opts : List Stp) (N : Nat) (x y z k : Value) (wr : World) : Prop :=
  ∃ j : Nat, j ≤ N ∧ k = .int .i64 j ∧ RBst opts (bestN (placeT p fr latest grace) opts j) x y z ∧ Below w.heap.size w wr
set_option maxHeartbeats 4000000 in
set_option maxRecDepth 100000 in
theorem rbest_main (A : Option Addr) (n c : Nat) (p : List Stp) (B : Option Addr) (d : Nat) (opts : List Stp) (fr latest gr0 grace : Int) (N : Nat) (w : World) (h : Steps w A n p) (hn : n ≤ maxLen) (g : Steps w B opts.length opts) (hm : opts.length ≤ maxLen) (hN : N = min opts.length 48) (hg0 : 0 ≤ grace) (hgc : (gr0 < 0 ∧ grace = 0) ∨ (0 ≤ gr0 ∧ gr0 = grace)) :
    Calls Try.prog 34 #[.slice A n c, .slice B opts.length d, .int .i64 fr, .int .i64 latest, .int .i64 gr0] w (BestPost (bestN (placeT p fr latest grace) opts N) w) := by
  unfold maxLen at hm
  have HH := Lib.hid h
  have HG := Lib.hid g
  have hN1 : N ≤ opts.length := by omega
  have hN2 : N ≤ 48 := by omega
  have hN3 : N = opts.length ∨ (N = 48 ∧ 48 < opts.length) := by omega
  have HN3 := Lib.hid hN3
  have HGc := Lib.hid hgc
  clear h g hN hN3 hgc
  go_enter Try.func34, Try.ntmps34
  go_upto_if 21 with (fail)
  go_cut [4] (fun X wx => X = .int .i64 grace ∧ w = wx)
  case first =>
    rcases HGc.out with ⟨q1, q2⟩ | ⟨q1, q2⟩
    · have HQ := Lib.hid q2
      clear q2
      go_wp2_with fail
      go_meet
      exact ⟨by rw [HQ.out], rfl⟩
    · have HQ := Lib.hid q2
      clear q2
      go_wp2_with fail
      go_meet
      exact ⟨by rw [HQ.out], rfl⟩
  case rest =>
    obtain ⟨rfl, rfl⟩ := hcut
    clear HGc
    go_wp2_with fail
    go_loopw [13, 14, 15, 16] (fun x y z k wr => RBRel w p fr latest grace opts N x y z k wr) (fun _ _ _ k _ => N - (intOf k).toNat)
    case atStart => exact ⟨0, by omega, rfl, .inl ⟨rfl, rfl, rfl, rfl, rfl, rfl⟩, Below.refl _ _⟩
    case round =>
      obtain ⟨j, hj, rfl, hst, bw⟩ := hrel
      have hok := bestN_ok (p := p) (fr := fr) (latest := latest) hg0 opts j (by omega)
      have hnx := bestN_succ (placeT p fr latest grace) opts j
      obtain ⟨s, hs⟩ : ∃ s, s = bestN (placeT p fr latest grace) opts j := ⟨_, rfl⟩
      rw [← hs] at hok hnx hst
      have HS := Lib.hid hs
      have HOk := Lib.hid hok
      clear hs hok
      by_cases hlt : j < N
      · have hl1 : j < opts.length := by omega
        have hl2 : (j : Int) < 48 := by omega
        obtain ⟨ab, off, a, rfl, hbl, ha, c0, c1⟩ := Lst.two (HG.out.below bw) hl1
        have hA : opts.getD j (0, 0) = a := by simp [List.getD, ha]
        have hW : optW opts j = a.2 := by rw [optW, hA]
        rw [bestStep, hA, hW] at hnx
        have HNx := Lib.hid hnx
        have HW := Lib.hid hW
        have HSt := Lib.hid hst
        have kx := Blk.new wr 63 #[.int .i64 a.1, .int .i64 a.2]
        have bw2 := bw.alloc bw.size (.cells #[.int .i64 a.1, .int .i64 a.2] 63)
        clear hnx hA hW ha hst
        have hcs : (a.2 < 1) ∨ (1 ≤ a.2 ∧ 1000000 < a.2) ∨ (1 ≤ a.2 ∧ a.2 ≤ 1000000 ∧ 1000000 - a.2 < grace) ∨ (1 ≤ a.2 ∧ a.2 ≤ 1000000 ∧ grace ≤ 1000000 - a.2) := by omega
        rcases hcs with q1 | ⟨q1, q2⟩ | ⟨q1, q2, q3⟩ | ⟨q1, q2, q3⟩
        case inr.inr.inr =>
          have hP := placeT_in (p := p) (fr := fr) (latest := latest) (grace := grace) (a := a) hg0 q1 q2 q3
          obtain ⟨o, ho⟩ : ∃ o, o = earl p fr (a.2 + grace) a.1 := ⟨_, rfl⟩
          rw [← ho] at hP
          have HO := Lib.hid ho
          have hpk := fun h => placeT_ok (p := p) (fr := fr) (latest := latest) (a := a) hg0 h
          rw [hP] at hpk
          have hN2 := HNx.out
          rw [hP] at hN2
          obtain ⟨v, hv⟩ : ∃ v, v = o.getD 0 := ⟨_, rfl⟩
          obtain ⟨b, hb⟩ : ∃ v, v = o.isSome := ⟨_, rfl⟩
          have HEV : Hid (earlV o = .tuple #[.int .i64 v, .bool b]) := by rw [hv, hb]; rfl
          rw [← hv, ← hb] at hN2 hpk
          have HN2 := Lib.hid hN2
          have HPk := Lib.hid hpk
          clear hP ho hpk hN2 hv hb
          have z0 : (wr.alloc (.cells #[.int .i64 a.1, .int .i64 a.2] 63)).cell? ⟨wr.heap.size, 0, none⟩ = some (.int .i64 a.1) := kx.cell 0
          have z1 : (wr.alloc (.cells #[.int .i64 a.1, .int .i64 a.2] 63)).cell? ⟨wr.heap.size, 1, none⟩ = some (.int .i64 a.2) := kx.cell 1
          have hsum : a.2 + grace ≤ 1000000 := by omega
          go_wp2_with fail
          refine (rearl_any A n c p fr (a.2 + grace) a.1 _ (HH.out.below bw2) hn).mono ?_
          rw [← HO.out]
          rintro e w2 ⟨rfl, b2⟩
          rw [HEV.out]
          have bw3 := below_step bw2 b2
          have kx2 := kx.below b2 kx.lt
          have y1 : w2.cell? ⟨wr.heap.size, 1, none⟩ = some (.int .i64 a.2) := kx2.cell 1
          clear c0 c1 bw bw2 b2 kx kx2 z0 z1
          have hbc : b = false ∨ (b = true ∧ latest < v) ∨ (b = true ∧ v ≤ latest) := by
            cases b
            · exact .inl rfl
            · rcases Int.lt_or_le latest v with h | h
              · exact .inr (.inl ⟨rfl, h⟩)
              · exact .inr (.inr ⟨rfl, h⟩)
          rcases hbc with rfl | ⟨rfl, r2⟩ | ⟨rfl, r2⟩
          · go_wp2_with fail
            exact ⟨⟨j + 1, by omega, by go_num, by rw [HN2.out, if_neg (by simp)]; exact HSt.out, bw3⟩, by simp [intOf]; omega⟩
          · go_wp2_with fail
            exact ⟨⟨j + 1, by omega, by go_num, by rw [HN2.out, if_neg (by simp; omega)]; exact HSt.out, bw3⟩, by simp [intOf]; omega⟩
          · obtain ⟨v1, v2, _, _⟩ := HPk.out (by simp [r2])
            rcases HSt.out with ⟨f1, f2, f3, rfl, rfl, rfl⟩ | ⟨f1, rfl, rfl, rfl⟩
            · have HF1 := Lib.hid f1
              clear f1 f2 f3 HSt
              go_wp2_with fail
              go_quiet (fail)
              go_wp2_with fail
              exact ⟨⟨j + 1, by omega, by go_num, by rw [HN2.out, if_pos ⟨by simp [r2], .inl HF1.out⟩]; exact .inr ⟨rfl, rfl, rfl, by show _ = Value.int .i64 (v + optW opts j); rw [HW.out]⟩, below_drewN bw3 _⟩, by simp [intOf]; omega⟩
            · obtain ⟨t1, t2, t3, t4, t5⟩ := HOk.out f1
              have HF1 := Lib.hid f1
              obtain ⟨ow, how⟩ : ∃ ow, ow = optW opts s.ch := ⟨_, rfl⟩
              rw [← how] at t4 t5 HN2
              rw [← how]
              have HOw := Lib.hid how
              clear f1 HSt how
              have hc0 : decide ((s.ch : Int) < 0) = false := by simp
              by_cases hcmp : v + a.2 < s.st + ow
              · go_wp2_with fail
                go_quiet (fail)
                go_wp2_with fail
                exact ⟨⟨j + 1, by omega, by go_num, by rw [HN2.out, if_pos ⟨by simp [r2], .inr hcmp⟩]; exact .inr ⟨rfl, rfl, rfl, by show _ = Value.int .i64 (v + optW opts j); rw [HW.out]⟩, below_drewN bw3 _⟩, by simp [intOf]; omega⟩
              · have hcm2 : decide (v + a.2 < s.st + ow) = false := by simpa using hcmp
                have hcm3 : s.st + ow ≤ v + a.2 := by omega
                clear hcmp
                go_wp2_with fail
                exact ⟨⟨j + 1, by omega, by go_num, by rw [HN2.out, if_neg (by rw [HF1.out]; simp; omega)]; exact .inr ⟨HF1.out, rfl, rfl, by rw [HOw.out]⟩, bw3⟩, by simp [intOf]; omega⟩
        all_goals
          have HP := Lib.hid (placeT_off (p := p) (fr := fr) (latest := latest) (grace := grace) (a := a) (by omega))
          go_wp2_with fail
          exact ⟨⟨j + 1, by omega, by go_num, by rw [HNx.out, HP.out, if_neg (by simp)]; exact HSt.out, bw2⟩, by simp [intOf]; omega⟩
      · obtain rfl : j = N := by omega
        clear hnx
        have hcs : j = opts.length ∨ (j < opts.length ∧ (48 : Int) ≤ j) := by rcases HN3.out with h | ⟨h, h'⟩ <;> omega
        rcases hst with ⟨f1, f2, f3, rfl, rfl, rfl⟩ | ⟨f1, rfl, rfl, rfl⟩
        · have HF : Hid (BestPost ⟨0, 0, false⟩ w = BestPost s w) := by show _ = _; obtain ⟨s1, s2, s3⟩ := s; simp only at f1 f2 f3; rw [f1, f2, f3]
          clear f1 f2 f3
          rcases hcs with hcs | ⟨q1, q2⟩
          · have hge : opts.length ≤ j := by omega
            clear hcs
            go_wp2_with fail
            go_ret3
            rw [← HS.out, ← HF.out]
            exact ⟨rfl, bw⟩
          · go_wp2_with fail
            go_ret3
            rw [← HS.out, ← HF.out]
            exact ⟨rfl, bw⟩
        · have HF1 := Lib.hid f1
          have hc0 : decide ((s.ch : Int) < 0) = false := by simp
          clear f1
          rcases hcs with hcs | ⟨q1, q2⟩
          · have hge : opts.length ≤ j := by omega
            clear hcs
            go_wp2_with fail
            go_ret3
            rw [← HS.out]
            exact ⟨by rw [HF1.out]; rfl, bw⟩
          · go_wp2_with fail
            go_ret3
            rw [← HS.out]
            exact ⟨by rw [HF1.out]; rfl, bw⟩
theorem bestN_congr (pl : Stp → Int × Bool) (o1 o2 : List Stp) (n : Nat) (h : ∀ k, k < n → o1[k]? = o2[k]?) : bestN pl o1 n = bestN pl o2 n ∧ ((bestN pl o1 n).fd = true → (bestN pl o1 n).ch < n) := by
  induction n with
  | zero => exact ⟨rfl, fun h => by simp [bestN] at h⟩
  | succ n ih =>
    obtain ⟨e, hc⟩ := ih (fun k hk => h k (by omega))
    rw [bestN_succ, bestN_succ, ← e]
    generalize bestN pl o1 n = s at *
    have hg : o1.getD n (0, 0) = o2.getD n (0, 0) := by simp [List.getD, h n (by omega)]
    have hw : optW o1 n = optW o2 n := by rw [optW, optW, hg]
    have hs : s.fd = true → optW o1 s.ch = optW o2 s.ch := fun hf => by
      have := hc hf
      simp [optW, List.getD, h s.ch (by omega)]
    constructor
    · unfold bestStep
      rw [hg, hw]
      cases hf : s.fd
      · simp
      · rw [hs hf]
    · unfold bestStep
      split
      · intro _; show n < n + 1; omega
      · intro hf; have := hc hf; omega
end Go.Proofs.Ytmjjbodglbdadaa.ProfW
