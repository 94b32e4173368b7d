/-
  Contract of muster/fit: Earliest (printed by genearl.py).
-/
import Derived.Test.YtmjjbodglbdadaaFit
import Derived.ScopeJumps
import Derived.WalkMore
namespace Go.Proofs.Ytmjjbodglbdadaa.ProfW
open Go.RowKit Mem Prof
set_option linter.unusedVariables false

def earlV (o : Option Int) : Value := .tuple #[.int .i64 (o.getD 0), .bool o.isSome]
def EarlPost (o : Option Int) (w : World) (e : Ending) (w' : World) : Prop := e = .returned (earlV o) ∧ Below w.heap.size w w'
theorem late_steps {p : List Stp} (hu : p.Pairwise (fun a b => a.1 < b.1)) {j : Nat} {s : Stp} {b : Int} (hs : p[j]? = some s) (hb : b ≤ s.1) : ∀ k r, j ≤ k → p[k]? = some r → b ≤ r.1 := by
  intro k r hk hr
  have := drop_late hu hs hb r (List.mem_iff_getElem?.2 ⟨k - j, by rw [List.getElem?_drop]; rw [show j + (k - j) = k by omega]; exact hr⟩)
  exact this
def EJ (w : World) (A : Option Addr) (c : Nat) (p : List Stp) (f0 long nodes : Int) (a' : Act) (w' : World) : Prop :=
  ∃ (t : Int) (i : Nat) (u8 u9 u12 u13 u14 u15 u16 u17 u18 u19 u20 u21 u22 u23 u24 u25 u26 u27 u28 u29 u30 u31 u32 u33 u34 u35 u36 u37 u38 u39 u40 u41 u42 u43 u44 u45 u46 u47 u48 u49 u50 u51 u52 u53 u54 u55 u56 u57 u58 u59 u60 u61 u62 u63 u64 u65 u66 u67 u68 u69 u70 u71 u72 u73 u74 u75 u76 u77 u78 u79 : Value), a' = { tmps := #[.slice A p.length c, .int .i64 f0, .int .i64 long, .int .i64 nodes, undef, undef, undef, undef, u8, u9, .int .i64 t, .int .i64 i, u12, u13, u14, u15, u16, u17, u18, u19, u20, u21, u22, u23, u24, u25, u26, u27, u28, u29, u30, u31, u32, u33, u34, u35, u36, u37, u38, u39, u40, u41, u42, u43, u44, u45, u46, u47, u48, u49, u50, u51, u52, u53, u54, u55, u56, u57, u58, u59, u60, u61, u62, u63, u64, u65, u66, u67, u68, u69, u70, u71, u72, u73, u74, u75, u76, u77, u78, u79, undef], defers := [] } ∧ Turn p (max f0 0) long nodes t i ∧ i ≤ p.length ∧ t ≤ 1000000 ∧ Below w.heap.size w w'
def EM (p : List Stp) (a' : Act) (_ : World) : Nat := p.length - (intOf (a'.tmps.getD 11 undef)).toNat

set_option maxHeartbeats 4000000 in
set_option maxRecDepth 1000000 in
theorem earl_main (A : Option Addr) (c : Nat) (p : List Stp) (f0 long nodes : Int) (w : World) (h : Steps w A p.length p) (hck : chkB p = true) (hak : askB long nodes = true) :
    Calls Try.prog 27 #[.slice A p.length c, .int .i64 f0, .int .i64 long, .int .i64 nodes] w (EarlPost (earl p f0 long nodes) w) := by
  have hC := chk_of hck
  have hfew := hC.few
  obtain ⟨hn1, hn2, hl1, hl2⟩ := ask_iff.1 hak
  have HCk := Lib.hid (check_is 0 A p.length c p w h (by simp [maxLen]; omega) (chkE_yes hck))
  have HAs := asks_any long nodes
  rw [hak] at HAs
  have HAs2 := Lib.hid HAs
  have HC := Lib.hid hC
  have HH := Lib.hid h
  have HCk2 := Lib.hid hck
  have HAk := Lib.hid hak
  clear h hC hck hak HAs
  go_enter Try.func27, Try.ntmps27
  go_wp2_with fail
  refine wp_scope_jumps 0 (EJ w A c p f0 long nodes) (EM p) rfl ?_ ?_
  · go_wp2_with fail
    refine HCk.out.mono ?_
    rintro e w1 ⟨rfl, bw⟩
    go_wp2_with fail
    refine (HAs2.out _).mono ?_
    rintro e w2 ⟨rfl, rfl⟩
    by_cases hbig : 1000000 < f0
    · have HT : Hid (Turn p (max f0 0) long nodes f0 0) := by have := turn_start p (max f0 0) long nodes; rw [show max f0 0 = f0 by omega] at this ⊢; exact this
      have HE := Lib.hid (turn_late HCk2.out HAk.out HT.out (by omega))
      have hm : 0 < f0 := by omega
      have hm2 : 1000000 - long < f0 := by omega
      go_wp2_with fail
      go_step3
      go_wp2_with fail
      simp only [Exit.jump]
      try rw [Exit.noGoto_ret]
      go_ret2
      rw [HE.out]
      exact ⟨rfl, bw⟩
    · by_cases hf : 0 ≤ f0
      · have hi : 0 ≤ p.length := by omega
        have HT : Hid (Turn p (max f0 0) long nodes f0 0) := by have := turn_start p (max f0 0) long nodes; rw [show max f0 0 = f0 by omega] at this ⊢; exact this
        have ht0 : 0 ≤ f0 := hf
        go_upto_region 5 with (go_step3)
        by_cases hlate : 1000000 - long < f0
        · have HE := Lib.hid (turn_late HCk2.out HAk.out HT.out hlate)
          go_wp2_with fail
          simp only [Exit.jump]
          try rw [Exit.noGoto_ret]
          go_ret2
          rw [HE.out]
          exact ⟨rfl, bw⟩
        · have hearly : f0 ≤ 1000000 - long := by omega
          go_wp2_with fail
          go_loop [10, 11] (fun y x => ∃ j : Nat, 0 ≤ j ∧ j ≤ p.length ∧ y = .int .i64 f0 ∧ x = .int .i64 j ∧ Turn p (max f0 0) long nodes f0 j) (fun _ x => p.length - (intOf x).toNat)
          case atStart => exact ⟨0, Nat.le_refl _, hi, rfl, rfl, HT.out⟩
          case round =>
            obtain ⟨j, hij, hj, rfl, rfl, hT⟩ := hrel
            have HT2 := Lib.hid hT
            clear hT
            by_cases hlt : j < p.length
            · obtain ⟨ab, off, s, rfl, hbl, hs, d0, d1⟩ := Lst.two (HH.out.below bw) hlt
              have HS := Lib.hid hs
              clear hs
              by_cases hsl : s.1 < f0 + long
              · by_cases hfr : nodes ≤ s.2
                · have HN := Lib.hid (turn_step HT2.out HS.out (.inl hfr))
                  go_wp2_with fail
                  go_round
                  case rel => exact ⟨j + 1, by omega, by omega, rfl, by go_num, HN.out⟩
                  case measure => simp [intOf]; omega
                · by_cases hla : j + 1 = p.length
                  · have hla1 : (((j : Int) + 1) == (p.length : Int)) = true := by rw [beq_iff_eq]; omega
                    have HE := Lib.hid (turn_last HCk2.out HAk.out HT2.out HS.out hsl (by omega) (List.getElem?_eq_none (by omega)))
                    clear hla
                    go_wp2_with fail
                    simp only [Exit.jump]
                    try rw [Exit.noGoto_ret]
                    go_ret2
                    rw [HE.out]
                    exact ⟨rfl, bw⟩
                  · have hla1 : (((j : Int) + 1) == (p.length : Int)) = false := by rw [beq_eq_false_iff_ne]; omega
                    obtain ⟨ab', off', r, e, _, hr, f0', f1'⟩ := Lst.two (HH.out.below bw) (show j + 1 < p.length by omega)
                    injection e with e
                    injection e with e1 e2
                    subst e1 e2
                    have hw1 : ((j : Int) + 1).toNat = j + 1 := by omega
                    have hw2 : (j : Int) + 1 < (p.length : Int) := by omega
                    have HR := Lib.hid hr
                    have hrE := HC.out.le r (List.mem_of_getElem? hr)
                    unfold Prof.End at hrE
                    clear hr hla
                    by_cases hrt : r.1 ≤ f0
                    · have HN := Lib.hid (turn_step HT2.out HS.out (.inr ⟨r, HR.out, hrt⟩))
                      go_wp2_with fail
                      go_round
                      case rel => exact ⟨j + 1, by omega, by omega, rfl, by go_num, HN.out⟩
                      case measure => simp [intOf]; omega
                    · have HN := Lib.hid (turn_next HC.out.nf.up HT2.out ht0 hl1 HS.out hsl (by omega) HR.out (by omega))
                      go_wp2_with fail
                      go_step3
                      exact ⟨rfl, r.1, j + 1, _, _, _, _, _, _, _, _, _, _, _, _, _, _, _, _, _, _, _, _, _, _, _, _, _, _, _, _, _, _, _, _, _, _, _, _, _, _, _, _, _, _, _, _, _, _, _, _, _, _, _, _, _, _, _, _, _, _, _, _, _, _, _, _, _, _, _, _, _, _, rfl, HN.out, by omega, hrE, bw⟩
              · have HE := Lib.hid (turn_yes HCk2.out HAk.out HT2.out hearly (late_steps HC.out.nf.up.pairwise HS.out (by omega)))
                go_wp2_with fail
                simp only [Exit.jump]
                try rw [Exit.noGoto_ret]
                go_ret2
                rw [HE.out]
                exact ⟨rfl, bw⟩
            · have HE := Lib.hid (turn_yes HCk2.out HAk.out HT2.out hearly (fun k s hk hs => by have := (List.getElem?_eq_some_iff.1 hs).1; omega))
              go_wp2_with fail
              simp only [Exit.jump]
              try rw [Exit.noGoto_ret]
              go_ret2
              rw [HE.out]
              exact ⟨rfl, bw⟩
      · have hf2 : f0 < 0 := by omega
        have hi : 0 ≤ p.length := by omega
        have HT : Hid (Turn p (max f0 0) long nodes 0 0) := by have := turn_start p (max f0 0) long nodes; rw [show max f0 0 = 0 by omega] at this ⊢; exact this
        have ht0 : (0 : Int) ≤ 0 := by omega
        go_upto_region 5 with (go_step3)
        · have hearly : 0 ≤ 1000000 - long := by omega
          go_wp2_with fail
          go_loop [10, 11] (fun y x => ∃ j : Nat, 0 ≤ j ∧ j ≤ p.length ∧ y = .int .i64 0 ∧ x = .int .i64 j ∧ Turn p (max f0 0) long nodes 0 j) (fun _ x => p.length - (intOf x).toNat)
          case atStart => exact ⟨0, Nat.le_refl _, hi, rfl, rfl, HT.out⟩
          case round =>
            obtain ⟨j, hij, hj, rfl, rfl, hT⟩ := hrel
            have HT2 := Lib.hid hT
            clear hT
            by_cases hlt : j < p.length
            · obtain ⟨ab, off, s, rfl, hbl, hs, d0, d1⟩ := Lst.two (HH.out.below bw) hlt
              have HS := Lib.hid hs
              clear hs
              by_cases hsl : s.1 < 0 + long
              · by_cases hfr : nodes ≤ s.2
                · have HN := Lib.hid (turn_step HT2.out HS.out (.inl hfr))
                  go_wp2_with fail
                  go_round
                  case rel => exact ⟨j + 1, by omega, by omega, rfl, by go_num, HN.out⟩
                  case measure => simp [intOf]; omega
                · by_cases hla : j + 1 = p.length
                  · have hla1 : (((j : Int) + 1) == (p.length : Int)) = true := by rw [beq_iff_eq]; omega
                    have HE := Lib.hid (turn_last HCk2.out HAk.out HT2.out HS.out hsl (by omega) (List.getElem?_eq_none (by omega)))
                    clear hla
                    go_wp2_with fail
                    simp only [Exit.jump]
                    try rw [Exit.noGoto_ret]
                    go_ret2
                    rw [HE.out]
                    exact ⟨rfl, bw⟩
                  · have hla1 : (((j : Int) + 1) == (p.length : Int)) = false := by rw [beq_eq_false_iff_ne]; omega
                    obtain ⟨ab', off', r, e, _, hr, f0', f1'⟩ := Lst.two (HH.out.below bw) (show j + 1 < p.length by omega)
                    injection e with e
                    injection e with e1 e2
                    subst e1 e2
                    have hw1 : ((j : Int) + 1).toNat = j + 1 := by omega
                    have hw2 : (j : Int) + 1 < (p.length : Int) := by omega
                    have HR := Lib.hid hr
                    have hrE := HC.out.le r (List.mem_of_getElem? hr)
                    unfold Prof.End at hrE
                    clear hr hla
                    by_cases hrt : r.1 ≤ 0
                    · have HN := Lib.hid (turn_step HT2.out HS.out (.inr ⟨r, HR.out, hrt⟩))
                      go_wp2_with fail
                      go_round
                      case rel => exact ⟨j + 1, by omega, by omega, rfl, by go_num, HN.out⟩
                      case measure => simp [intOf]; omega
                    · have HN := Lib.hid (turn_next HC.out.nf.up HT2.out ht0 hl1 HS.out hsl (by omega) HR.out (by omega))
                      go_wp2_with fail
                      go_step3
                      exact ⟨rfl, r.1, j + 1, _, _, _, _, _, _, _, _, _, _, _, _, _, _, _, _, _, _, _, _, _, _, _, _, _, _, _, _, _, _, _, _, _, _, _, _, _, _, _, _, _, _, _, _, _, _, _, _, _, _, _, _, _, _, _, _, _, _, _, _, _, _, _, _, _, _, _, _, _, _, rfl, HN.out, by omega, hrE, bw⟩
              · have HE := Lib.hid (turn_yes HCk2.out HAk.out HT2.out hearly (late_steps HC.out.nf.up.pairwise HS.out (by omega)))
                go_wp2_with fail
                simp only [Exit.jump]
                try rw [Exit.noGoto_ret]
                go_ret2
                rw [HE.out]
                exact ⟨rfl, bw⟩
            · have HE := Lib.hid (turn_yes HCk2.out HAk.out HT2.out hearly (fun k s hk hs => by have := (List.getElem?_eq_some_iff.1 hs).1; omega))
              go_wp2_with fail
              simp only [Exit.jump]
              try rw [Exit.noGoto_ret]
              go_ret2
              rw [HE.out]
              exact ⟨rfl, bw⟩
  · rintro a' w' ⟨t, i, u8, u9, u12, u13, u14, u15, u16, u17, u18, u19, u20, u21, u22, u23, u24, u25, u26, u27, u28, u29, u30, u31, u32, u33, u34, u35, u36, u37, u38, u39, u40, u41, u42, u43, u44, u45, u46, u47, u48, u49, u50, u51, u52, u53, u54, u55, u56, u57, u58, u59, u60, u61, u62, u63, u64, u65, u66, u67, u68, u69, u70, u71, u72, u73, u74, u75, u76, u77, u78, u79, rfl, hT, hi, htE, bw⟩
    have ht0 : 0 ≤ t := by have := hT.le; omega
    have HT := Lib.hid hT
    clear hT
    by_cases hlate : 1000000 - long < t
    · have HE := Lib.hid (turn_late HCk2.out HAk.out HT.out hlate)
      go_wp2_with fail
      simp only [Exit.jump]
      try rw [Exit.noGoto_ret]
      go_ret2
      rw [HE.out]
      exact ⟨rfl, bw⟩
    · have hearly : t ≤ 1000000 - long := by omega
      go_wp2_with fail
      go_loop [10, 11] (fun y x => ∃ j : Nat, i ≤ j ∧ j ≤ p.length ∧ y = .int .i64 t ∧ x = .int .i64 j ∧ Turn p (max f0 0) long nodes t j) (fun _ x => p.length - (intOf x).toNat)
      case atStart => exact ⟨i, Nat.le_refl _, hi, rfl, rfl, HT.out⟩
      case round =>
        obtain ⟨j, hij, hj, rfl, rfl, hT⟩ := hrel
        have HT2 := Lib.hid hT
        clear hT
        by_cases hlt : j < p.length
        · obtain ⟨ab, off, s, rfl, hbl, hs, d0, d1⟩ := Lst.two (HH.out.below bw) hlt
          have HS := Lib.hid hs
          clear hs
          by_cases hsl : s.1 < t + long
          · by_cases hfr : nodes ≤ s.2
            · have HN := Lib.hid (turn_step HT2.out HS.out (.inl hfr))
              go_wp2_with fail
              go_round
              case rel => exact ⟨j + 1, by omega, by omega, rfl, by go_num, HN.out⟩
              case measure => simp [intOf]; omega
            · by_cases hla : j + 1 = p.length
              · have hla1 : (((j : Int) + 1) == (p.length : Int)) = true := by rw [beq_iff_eq]; omega
                have HE := Lib.hid (turn_last HCk2.out HAk.out HT2.out HS.out hsl (by omega) (List.getElem?_eq_none (by omega)))
                clear hla
                go_wp2_with fail
                simp only [Exit.jump]
                try rw [Exit.noGoto_ret]
                go_ret2
                rw [HE.out]
                exact ⟨rfl, bw⟩
              · have hla1 : (((j : Int) + 1) == (p.length : Int)) = false := by rw [beq_eq_false_iff_ne]; omega
                obtain ⟨ab', off', r, e, _, hr, f0', f1'⟩ := Lst.two (HH.out.below bw) (show j + 1 < p.length by omega)
                injection e with e
                injection e with e1 e2
                subst e1 e2
                have hw1 : ((j : Int) + 1).toNat = j + 1 := by omega
                have hw2 : (j : Int) + 1 < (p.length : Int) := by omega
                have HR := Lib.hid hr
                have hrE := HC.out.le r (List.mem_of_getElem? hr)
                unfold Prof.End at hrE
                clear hr hla
                by_cases hrt : r.1 ≤ t
                · have HN := Lib.hid (turn_step HT2.out HS.out (.inr ⟨r, HR.out, hrt⟩))
                  go_wp2_with fail
                  go_round
                  case rel => exact ⟨j + 1, by omega, by omega, rfl, by go_num, HN.out⟩
                  case measure => simp [intOf]; omega
                · have HN := Lib.hid (turn_next HC.out.nf.up HT2.out ht0 hl1 HS.out hsl (by omega) HR.out (by omega))
                  go_wp2_with fail
                  go_step3
                  exact ⟨rfl, ⟨r.1, j + 1, _, _, _, _, _, _, _, _, _, _, _, _, _, _, _, _, _, _, _, _, _, _, _, _, _, _, _, _, _, _, _, _, _, _, _, _, _, _, _, _, _, _, _, _, _, _, _, _, _, _, _, _, _, _, _, _, _, _, _, _, _, _, _, _, _, _, _, _, _, _, rfl, HN.out, by omega, hrE, bw⟩, by simp [EM, intOf]; omega⟩
          · have HE := Lib.hid (turn_yes HCk2.out HAk.out HT2.out hearly (late_steps HC.out.nf.up.pairwise HS.out (by omega)))
            go_wp2_with fail
            simp only [Exit.jump]
            try rw [Exit.noGoto_ret]
            go_ret2
            rw [HE.out]
            exact ⟨rfl, bw⟩
        · have HE := Lib.hid (turn_yes HCk2.out HAk.out HT2.out hearly (fun k s hk hs => by have := (List.getElem?_eq_some_iff.1 hs).1; omega))
          go_wp2_with fail
          simp only [Exit.jump]
          try rw [Exit.noGoto_ret]
          go_ret2
          rw [HE.out]
          exact ⟨rfl, bw⟩
end Go.Proofs.Ytmjjbodglbdadaa.ProfW
