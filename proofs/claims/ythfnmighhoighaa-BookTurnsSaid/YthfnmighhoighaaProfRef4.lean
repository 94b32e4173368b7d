/-
  Contract of musterref10: Add.
-/
import Derived.Test.YthfnmighhoighaaProfRef3
import Derived.Test.YthfnmighhoighaaProfLaw2
namespace Go.Proofs.Ythfnmighhoighaa.ProfW
open Go.RowKit Mem Prof
set_option linter.unusedVariables false

theorem rawR_at {p : List Stp} {a b n : Int} {k : Nat} {t : Int} (h : (ticks p a b)[k]? = some t) : (rawR p a b n)[k]? = some (t, val p a b n t) := by
  unfold rawR
  rw [List.getElem?_map, h]
  rfl
theorem ticks_len (p : List Stp) (a b : Int) : (ticks p a b).length ≤ p.length + 2 := by
  have h1 := ticksP_len p
  have h2 := ins_len (ticksP p) a
  have h3 := ins_len (ins (ticksP p) a) b
  unfold ticks
  split <;> omega
def RAddRel (w : World) (r : List Stp) (X Y : Value) (wr : World) : Prop :=
  ∃ (k : Nat) (A : Option Addr) (c : Nat), k ≤ r.length ∧ Y = .int .i64 k ∧ X = .slice A (dd (r.take k)).length c ∧ StepsO wr w.heap.size A (dd (r.take k)).length c (dd (r.take k)) ∧ Below w.heap.size w wr

set_option maxHeartbeats 4000000 in
set_option maxRecDepth 100000 in
theorem radd_main (A : Option Addr) (c : Nat) (p : List Stp) (a b n : Int) (w : World) (h : Steps w A p.length p) (hck : chkB p = true) (harg : argB a b n = true) :
    Calls Try.prog 63 #[.slice A p.length c, .int .i64 a, .int .i64 b, .int .i64 n] w (AddPost (add p a b n) w) := by
  have hC := chk_of hck
  have hfew := hC.few
  obtain ⟨ha0, ha1, hab, hn0, hn1⟩ := args_of harg
  unfold Prof.End at ha1
  have HCk := Lib.hid (rcheck_any A p.length c p w h (by simp [maxLen]; omega))
  rw [chkE_yes hck] at HCk
  have HC := Lib.hid hC
  have HH := Lib.hid h
  have HA : Hid (add p a b n = if chkB (out p a b n) = false then ([], 3) else (out p a b n, 0)) := by
    show _ = _
    rw [add, if_neg (by simp [hck]), if_neg (by simp [harg])]
  have htl := ticks_len p a b
  clear h hC hck harg
  go_enter Try.func63, Try.ntmps63
  go_wp2_with fail
  refine HCk.out.mono ?_
  rintro e w1 ⟨rfl, d1, rfl⟩
  obtain ⟨V, hV⟩ : ∃ V, V = (w.drewN d1).alloc (.cells #[.int .i64 a] 3) := ⟨_, rfl⟩
  have bV : Below w.heap.size w V := by rw [hV]; exact (below_drewN (Below.refl _ _) d1).alloc (Nat.le_refl _) _
  have hVI : IntsO V w.heap.size (some ⟨w.heap.size, 0, none⟩) 1 1 [a] := by
    rw [hV]
    exact ⟨rfl, OwnC.of_new (w.drewN d1) w.heap.size 1 3 #[.int .i64 a] 1 (Nat.le_refl _) (by simp [maxLen]) (by simp)⟩
  have HV := Lib.hid hV
  clear hV
  go_upto_if 40 with fail
  go_cut [10] (fun X wx => ∃ (B : Option Addr) (q d : Nat) (m : List Int), X = .slice B q d ∧ Ints wx B q m ∧ m.foldl ins (ticksP p) = ticks p a b ∧ q ≤ 2 ∧ Below w.heap.size w wx)
  case first =>
    rw [← HV.out]
    by_cases hbe : b ≤ 1000000
    · have HT : Hid ([a, b].foldl ins (ticksP p) = ticks p a b) := by show _ = _; rw [ticks, if_pos (by unfold Prof.End; exact hbe)]; rfl
      obtain ⟨A', c', W', hrun, hown, hb2, _, _⟩ := app_s layI (P := Try.prog) (V.alloc (.cells #[.int .i64 b] 3)) w.heap.size 43 43 3 _ 8 Try.underlying43 intInfo rfl _ 1 1 [a] (hVI.below ((Below.refl _ _).alloc (Nat.le_refl _) _)) (some ⟨V.heap.size, 0, none⟩) 1 1 [b] (Lst.new layI V b #[.int .i64 b] _ rfl) (by simp [maxLen]) (by omega) (by have := bV.size; simp; omega)
      have HR := Lib.hid hrun
      have bw2 := (bV.alloc bV.size (.cells #[.int .i64 b] 3)).trans hb2
      clear hrun hb2 hVI
      go_wp2_with (at_builtin; refine wpList_app2 rfl _ _ rfl rfl rfl HR.out ?_)
      go_meet
      exact ⟨A', 2, c', [a, b], rfl, hown.lst layI, HT.out, by omega, bw2⟩
    · have HT : Hid ([a].foldl ins (ticksP p) = ticks p a b) := by show _ = _; rw [ticks, if_neg (by unfold Prof.End; exact hbe)]; rfl
      go_wp2_with fail
      go_meet
      exact ⟨_, 1, 1, [a], rfl, hVI.lst layI, HT.out, by omega, bV⟩
  case rest =>
    obtain ⟨B, q, d, m, rfl, hm, htk, hq, bwc⟩ := hcut
    have HTk := Lib.hid htk
    clear htk hVI bV HV
    go_wp2_with fail
    refine (rticks_any A p.length c p B q d m wc (HH.out.below bwc) (by omega) hm (by omega)).mono ?_
    rw [HTk.out]
    rintro e w2 ⟨A2, n2, c2, rfl, hI2, hc2, hA2, b2⟩
    have bw2 := below_step bwc b2
    have hl2 := hI2.len
    have HI2 := Lib.hid hI2
    have hnl : n2 ≤ 2000 := by omega
    obtain ⟨r, hr⟩ : ∃ r, r = rawR p a b n := ⟨_, rfl⟩
    have hrl : r.length = n2 := by rw [hr, rawR, List.length_map]; exact hl2
    have HO : Hid (dd r = out p a b n) := by rw [hr]; rfl
    have HAt : Hid (∀ (k : Nat) (t : Int), (ticks p a b)[k]? = some t → r[k]? = some (t, val p a b n t)) := by rw [hr]; exact fun k t ht => rawR_at ht
    have HPos : Hid (∀ t ∈ ticks p a b, 0 ≤ t) := by
      show ∀ t ∈ _, _
      intro t ht
      rcases (mem_ticks p a b t).1 ht with rfl | ⟨rfl, _⟩ | ⟨s, hs, rfl⟩
      · exact ha0
      · omega
      · exact HC.out.nf.up.nonneg s hs
    subst hrl
    clear hr hA2 hm bwc b2 hl2 hI2 htl
    go_wp2_with fail
    go_loopw [12, 13] (fun X Y wr => RAddRel w2 r X Y wr) (fun _ Y _ => r.length - (intOf Y).toNat)
    case atStart => exact ⟨0, none, 0, by omega, rfl, rfl, SOwn.nil _ _ _ _, Below.refl _ _⟩
    case round =>
      obtain ⟨k, A3, c3, hk, rfl, rfl, ho, bw⟩ := hrel
      obtain ⟨o, hoe⟩ : ∃ o, o = dd (r.take k) := ⟨_, rfl⟩
      have hol : o.length ≤ 2000 := by rw [hoe]; have := dd_len (r.take k); rw [List.length_take] at this; omega
      rw [← hoe] at ho
      rw [← hoe]
      have HOe := Lib.hid hoe
      clear hoe
      have bwr := below_step bw2 bw
      have hsz := bw.size
      by_cases hlt : k < r.length
      · obtain ⟨b', off', t, rfl, hbl, ht, ct⟩ := Lst.int (HI2.out.below bw) hlt
        have hrk := HAt.out k t ht
        have ht0 := HPos.out t (List.mem_of_getElem? ht)
        obtain ⟨hv0, hv1⟩ := now_bd HC.out t ht0
        obtain ⟨v, hv⟩ : ∃ v, v = val p a b n t := ⟨_, rfl⟩
        have HVal : Hid (v = now p t + if a ≤ t ∧ t < b then n else 0) := hv
        have HNx : Hid (dd (r.take (k + 1)) = put o (t, v)) := by show _ = _; rw [take_snoc_some hrk, dd_snoc, HOe.out, hv]
        obtain ⟨nv, hnv⟩ : ∃ nv, nv = now p t := ⟨_, rfl⟩
        rw [← hnv] at hv0 hv1 HVal
        have HNow : Hid (∀ w', Below w.heap.size w w' → Calls Try.prog 74 #[.slice A p.length c, .int .i64 t] w' fun e w'' => e = .returned (.int .i64 nv) ∧ w' = w'') := by
          show ∀ w', _
          intro w' hb'
          rw [hnv]
          exact now_any A p.length c p t w' (HH.out.below hb') (by simp [maxLen]; omega)
        clear hrk ht hv hnv
        go_wp2_with fail
        refine (HNow.out wr bwr).mono ?_
        rintro e w4 ⟨rfl, rfl⟩
        go_upto_region 14 with fail
        go_cut [73] (fun X wx => X = .bool (decide (a ≤ t ∧ t < b)) ∧ wx = wr)
        case first =>
          by_cases q1 : a ≤ t
          · by_cases q2 : t < b
            · go_wp2_with fail
              go_meet
              exact ⟨by simp [q1, q2], rfl⟩
            · go_wp2_with fail
              go_meet
              exact ⟨by simp [q1, q2], rfl⟩
          · go_wp2_with fail
            go_meet
            exact ⟨congrArg Value.bool (decide_eq_false (by omega)).symm, rfl⟩
        case rest =>
          obtain ⟨rfl, hwc⟩ := hcut
          subst hwc
          go_upto_if 73 with fail
          go_cut [14] (fun X wx => X = .int .i64 v ∧ wx = wc)
          case first =>
            by_cases q1 : a ≤ t ∧ t < b
            · rw [if_pos q1] at HVal
              have q2 : decide (a ≤ t ∧ t < b) = true := by simpa using q1
              rw [q2]
              clear q1 q2
              go_wp2_with fail
              go_meet
              exact ⟨by rw [HVal.out], rfl⟩
            · rw [if_neg q1, Int.add_zero] at HVal
              have q2 : decide (a ≤ t ∧ t < b) = false := by simpa using q1
              rw [q2]
              clear q1 q2
              go_wp2_with fail
              go_meet
              exact ⟨by rw [HVal.out], rfl⟩
          case rest =>
            obtain ⟨rfl, hwc⟩ := hcut
            subst hwc
            obtain ⟨A', c', W', hrun, hown, hb9, _, _⟩ := app_s layS (P := Try.prog) (wc.alloc (.cells #[.int .i64 t, .int .i64 v] 77)) w2.heap.size 56 56 77 _ 16 Try.underlying56 stepInfo rfl A3 o.length c3 o (ho.below ((Below.refl _ _).alloc (Nat.le_refl _) _)) (some ⟨wc.heap.size, 0, none⟩) 1 1 [(t, v)] (Lst.new layS wc (t, v) #[.int .i64 t, .int .i64 v] _ rfl) (by simp [maxLen]; omega) (by omega) (by simp; omega)
            have HR := Lib.hid hrun
            have bw9 := (bw.alloc hsz (.cells #[.int .i64 t, .int .i64 v] 77)).trans hb9
            clear hrun hb9
            by_cases hz : o.length = 0
            · have hz1 : ((o.length : Int) == 0) = true := by simp [hz]
              have hz2 : (o.length == 0) = true := by simp [hz]
              have HP : Hid (dd (r.take (k + 1)) = o ++ [(t, v)]) := by
                show _ = _
                rw [HNx.out]
                have : o = [] := List.eq_nil_of_length_eq_zero hz
                rw [this]
                rfl
              clear hz
              go_wp2_with (at_builtin; refine wpList_app2 rfl _ _ rfl rfl rfl HR.out ?_)
              refine ⟨⟨k + 1, A', c', by omega, by go_num, ?_, ?_, bw9⟩, by simp [intOf]; omega⟩
              · rw [HP.out]; simp
              · rw [HP.out]; simpa using hown
            · have hz1 : ((o.length : Int) == 0) = false := by rw [beq_eq_false_iff_ne]; omega
              have hz2 : (o.length == 0) = false := by rw [beq_eq_false_iff_ne]; omega
              obtain ⟨b3, off3, s, hAe, _, hs, e0, e1⟩ := Lst.two (ho.lst layS) (show o.length - 1 < o.length by omega)
              have hw1 : (1 : Int) ≤ (o.length : Int) := by omega
              have hw4 : ((o.length : Int) - 1).toNat = o.length - 1 := by omega
              have hla : o.getLast? = some s := by rw [List.getLast?_eq_getElem?]; exact hs
              subst hAe
              clear hs hz
              by_cases hf : s.2 = v
              · have hf1 : (s.2 != v) = false := by simp [hf]
                have HP : Hid (dd (r.take (k + 1)) = o) := by show _ = _; rw [HNx.out, put, if_pos (by rw [hla]; simp [hf])]
                clear hf hla HR hown bw9
                go_wp2_with fail
                refine ⟨⟨k + 1, some ⟨b3, off3, none⟩, c3, by omega, by go_num, ?_, ?_, bw⟩, by simp [intOf]; omega⟩
                · rw [HP.out]
                · rw [HP.out]; exact ho
              · have hf1 : (s.2 != v) = true := by simpa using hf
                have HP : Hid (dd (r.take (k + 1)) = o ++ [(t, v)]) := by show _ = _; rw [HNx.out, put, if_neg (by rw [hla]; simpa using hf)]
                clear hf hla
                go_wp2_with (at_builtin; refine wpList_app2 rfl _ _ rfl rfl rfl HR.out ?_)
                refine ⟨⟨k + 1, A', c', by omega, by go_num, ?_, ?_, bw9⟩, by simp [intOf]; omega⟩
                · rw [HP.out]; simp
                · rw [HP.out]; simpa using hown
      · have HE : Hid (o = out p a b n) := by show _ = _; rw [HOe.out, List.take_of_length_le (by omega), HO.out]
        have HCk2 := Lib.hid (rcheck_any A3 _ c3 o wr (ho.lst layS) (SOwn.max ho))
        rw [← HE.out] at HA
        cases hco : chkB o
        · rw [chkE_no hco] at HCk2
          rw [hco, if_pos rfl] at HA
          clear hco
          go_wp2_with fail
          refine HCk2.out.mono ?_
          rintro e w11 ⟨rfl, d11, rfl⟩
          go_wp2_with fail
          go_ret2
          rw [HA.out]
          exact ⟨none, 0, rfl, SOwn.nil _ _ _ _, below_drewN bwr d11⟩
        · rw [chkE_yes hco] at HCk2
          rw [hco, if_neg (by simp)] at HA
          clear hco
          go_wp2_with fail
          refine HCk2.out.mono ?_
          rintro e w11 ⟨rfl, d11, rfl⟩
          go_wp2_with fail
          go_ret2
          rw [HA.out]
          exact ⟨A3, c3, rfl, (ho.mono bw2.size).below (below_drewN (Below.refl _ _) d11), below_drewN bwr d11⟩

theorem arg_cases {a b n : Int} (h : argB a b n = false) : a < 0 ∨ (0 ≤ a ∧ 1000000 < a) ∨ (0 ≤ a ∧ a ≤ 1000000 ∧ b < a) ∨ (0 ≤ a ∧ a ≤ 1000000 ∧ a ≤ b ∧ n < -1000000) ∨ (0 ≤ a ∧ a ≤ 1000000 ∧ a ≤ b ∧ -1000000 ≤ n ∧ 1000000 < n) := by
  simp only [argB, Bool.and_eq_false_iff, decide_eq_false_iff_not] at h
  omega
set_option maxHeartbeats 2000000 in
set_option maxRecDepth 100000 in
theorem radd_any (A : Option Addr) (m c : Nat) (p : List Stp) (a b n : Int) (w : World) (h : Steps w A m p) (hm : m ≤ maxLen) :
    Calls Try.prog 63 #[.slice A m c, .int .i64 a, .int .i64 b, .int .i64 n] w (AddPost (add p a b n) w) := by
  have hl := h.len
  subst hl
  have HCk := Lib.hid (rcheck_any A p.length c p w h hm)
  cases hck : chkB p
  · rw [chkE_no hck] at HCk
    have HR : Hid (add p a b n = ([], 100)) := by show _ = _; rw [add, if_pos hck]
    clear hck h
    go_enter Try.func63, Try.ntmps63
    go_wp2_with fail
    refine HCk.out.mono ?_
    rintro e w1 ⟨rfl, d1, rfl⟩
    go_wp2_with fail
    go_ret2
    rw [HR.out]
    exact ⟨none, 0, rfl, SOwn.nil _ _ _ _, below_drewN (Below.refl _ _) d1⟩
  · cases harg : argB a b n
    · rw [chkE_yes hck] at HCk
      have HR : Hid (add p a b n = ([], 2)) := by show _ = _; rw [add, if_neg (by simp [hck]), if_pos harg]
      have hcs := arg_cases harg
      clear hck h harg
      rcases hcs with q1 | ⟨q1, q2⟩ | ⟨q1, q2, q3⟩ | ⟨q1, q2, q3, q4⟩ | ⟨q1, q2, q3, q4, q5⟩
      all_goals
        go_enter Try.func63, Try.ntmps63
        go_wp2_with fail
        refine HCk.out.mono ?_
        rintro e w1 ⟨rfl, d1, rfl⟩
        go_wp2_with fail
        go_ret2
        rw [HR.out]
        exact ⟨none, 0, rfl, SOwn.nil _ _ _ _, below_drewN (Below.refl _ _) d1⟩
    · exact radd_main A c p a b n w h hck harg
end Go.Proofs.Ythfnmighhoighaa.ProfW
