/-
  Contracts of musterref13: Grant, Held.
-/
import Derived.Test.YtdamocjbkdknaaaAllocREach
namespace Go.Proofs.Ytdamocjbkdknaaa.FleetW
open Go.RowKit Mem Fleet
set_option linter.unusedVariables false
set_option linter.unusedSimpArgs false
set_option linter.unnecessarySimpa false

theorem rheld_any (A : Option Addr) (n c : Nat) (l : List Nd) (job : Int) (w : World) (h : Nds w A n l) (hn : n ≤ maxLen) :
    Calls Try.prog 38 #[.slice A n c, .int .i64 job] w (Ret (.int .u64 (heldN l job : Int)) w) := by
  have hlen := h.len
  subst hlen
  by_cases hj : job < 1
  · have HV : Hid (heldN l job = 0) := by show _ = _; rw [heldN, if_pos hj]
    have d1 : decide (job < 1) = true := by simp [hj]
    rw [HV.out]
    clear h
    go_enter Try.func38, Try.ntmps38
    go_wp2_with fail
    go_ret
    exact ⟨rfl, Below.refl _ _⟩
  · have HV : Hid (heldN l job = whereN (ofQ job 1) l) := by show _ = _; rw [heldN, if_neg hj]
    have d1 : decide (job < 1) = false := by simp [hj]
    rw [HV.out]
    have HF := Lib.hid (rof_any A l.length c l job 1 w h hn)
    clear h
    go_enter Try.func38, Try.ntmps38
    go_wp2_with fail
    refine HF.out.mono ?_
    rintro e w1 ⟨rfl, b1⟩
    go_wp2_with fail
    go_ret
    exact ⟨rfl, b1⟩
def RGrantPost (r : List Nd × Nat × List Nt × Int) (w : World) (e : Ending) (w' : World) : Prop := ∃ A c B d, e = .returned (.tuple #[.slice A r.1.length c, .int .u64 (r.2.1 : Int), .slice B r.2.2.1.length d, .int .i64 r.2.2.2]) ∧ Nds w' A r.1.length r.1 ∧ r.1.length ≤ maxLen ∧ NtsO w' w.heap.size B r.2.2.1.length d r.2.2.1 ∧ Below w.heap.size w w'
theorem rGrantPost_no {r : Int} {w w' : World} (b : Below w.heap.size w w') : RGrantPost ([], 0, [], r) w (.returned (.tuple #[.slice none 0 0, .int .u64 0, .slice none 0 0, .int .i64 r])) w' := ⟨none, 0, none, 0, rfl, Lst.nil _ _ _ _, by simp [maxLen], SOwn.nil _ _ _ _, b⟩
theorem lowT_sel {l : List Nd} {N : Nat} (h : chk l = true) : lowT (whereN freeQ l) (N : Int) = if (sel freeQ l l.length).length < N then (0, false) else (setM ((sel freeQ l l.length).take N), true) := by
  have hw : whereN freeQ l = setB freeQ l := by simp [whereN, h]
  have hm := memL_setB freeQ l (by have := (chk_iff.1 h).few; omega)
  rw [hw, lowT, hm]
  by_cases hl : (sel freeQ l l.length).length < N
  · rw [if_pos hl, if_pos (.inr (by omega))]
  · rw [if_neg hl, if_neg (by omega)]
    simp
theorem take_take_snoc {α : Type} {a b : List α} {N : Nat} (h : N ≤ (a.take N).length) : (a ++ b).take N = a.take N := by
  rw [List.length_take] at h
  rw [List.take_append, show N - a.length = 0 by omega]
  simp
theorem take_lt_len {α : Type} {a : List α} {N : Nat} (h : (a.take N).length < N) : a.take N = a := by
  rw [List.length_take] at h
  exact List.take_of_length_le (by omega)
def gEnd (l : List Nd) (q : Nat × Bool) (act job now : Int) : List Nd × Nat × List Nt × Int :=
  if q.2 = false then ([], 0, [], 130) else
  if (eachT l q.1 act job now).2.2 = 0 then ((eachT l q.1 act job now).1, q.1, (eachT l q.1 act job now).2.1, 0) else ([], 0, [], (eachT l q.1 act job now).2.2)
def GSRel (w2 : World) (l : List Nd) (N : Nat) (X Y : Value) (wr : World) : Prop := ∃ (k : Nat) (A : Option Addr) (n c : Nat), k ≤ l.length ∧ X = .slice A n c ∧ Y = .int .i64 k ∧ n ≤ k ∧ IntsO wr w2.heap.size A n c (nats ((sel freeQ l k).take N)) ∧ Hid (n = ((sel freeQ l k).take N).length) ∧ Below w2.heap.size w2 wr
set_option maxHeartbeats 4000000 in
set_option maxRecDepth 100000 in
theorem rgrant_any (A : Option Addr) (n c : Nat) (l : List Nd) (nodes act job now : Int) (w : World) (h : Nds w A n l) (hn : n ≤ maxLen) :
    Calls Try.prog 36 #[.slice A n c, .int .i64 nodes, .int .i64 act, .int .i64 job, .int .i64 now] w (RGrantPost (grantT l nodes act job now) w) := by
  have hlen := h.len
  subst hlen
  by_cases ha : act ≠ 1 ∧ act ≠ 2
  · rw [grantT, if_pos ha]
    have e1 : (act == 1) = false := by simp [ha.1]
    have e2 : (act == 2) = false := by simp [ha.2]
    obtain ⟨n1, n2⟩ := ha
    have d1 : decide (act = 1) = false := by simp [n1]
    have d2 : decide (act = 2) = false := by simp [n2]
    have f1 : (act != 1) = true := by simp [n1]
    have f2 : (act != 2) = true := by simp [n2]
    clear h
    go_enter Try.func36, Try.ntmps36
    go_wp2_with fail
    (try simp only [Exit.inBlock, Exit.then]); refine bodyPost_ret (results_four rfl _ _ _) rfl ?_
    exact rGrantPost_no (Below.refl _ _)
  have HCk := Lib.hid (rcheck_any A l.length c l w h hn)
  rw [grantT, if_neg ha]
  have ha' : Hid ((act != 1 && act != 2) = false) := by
    show _ = _
    by_cases h1 : act = 1
    · subst h1; rfl
    · by_cases h2 : act = 2
      · subst h2; rfl
      · exact absurd ⟨h1, h2⟩ ha
  have ha2 : act = 1 ∨ act = 2 := by
    by_cases h1 : act = 1
    · exact .inl h1
    · by_cases h2 : act = 2
      · exact .inr h2
      · exact absurd ⟨h1, h2⟩ ha
  clear ha
  by_cases hck : chk l = false
  · rw [if_pos hck]
    rw [chkE_no hck] at HCk
    clear h hck
    rcases ha2 with rfl | rfl
    · go_enter Try.func36, Try.ntmps36
      go_wp2_with fail
      refine HCk.out.mono ?_
      rintro e w1 ⟨rfl, b1⟩
      go_wp2_with fail
      (try simp only [Exit.inBlock, Exit.then]); refine bodyPost_ret (results_four rfl _ _ _) rfl ?_
      exact rGrantPost_no b1
    · go_enter Try.func36, Try.ntmps36
      go_wp2_with fail
      refine HCk.out.mono ?_
      rintro e w1 ⟨rfl, b1⟩
      go_wp2_with fail
      (try simp only [Exit.inBlock, Exit.then]); refine bodyPost_ret (results_four rfl _ _ _) rfl ?_
      exact rGrantPost_no b1
  have hck' : chk l = true := by simpa using hck
  rw [if_neg hck]
  rw [chkE_yes hck'] at HCk
  have hfew := (chk_iff.1 hck').few
  clear hck
  by_cases hn1 : nodes < 1 ∨ 48 < nodes
  · rw [if_pos hn1]
    clear h
    by_cases hx : nodes < 1
    · have d1 : decide (nodes < 1) = true := by simp [hx]
      clear hn1
      rcases ha2 with rfl | rfl
      · go_enter Try.func36, Try.ntmps36
        go_wp2_with fail
        refine HCk.out.mono ?_
        rintro e w1 ⟨rfl, b1⟩
        go_wp2_with fail
        (try simp only [Exit.inBlock, Exit.then]); refine bodyPost_ret (results_four rfl _ _ _) rfl ?_
        exact rGrantPost_no b1
      · go_enter Try.func36, Try.ntmps36
        go_wp2_with fail
        refine HCk.out.mono ?_
        rintro e w1 ⟨rfl, b1⟩
        go_wp2_with fail
        (try simp only [Exit.inBlock, Exit.then]); refine bodyPost_ret (results_four rfl _ _ _) rfl ?_
        exact rGrantPost_no b1
    · have d1 : decide (nodes < 1) = false := by simp [hx]
      have hy : 48 < nodes := by omega
      have d2 : decide (48 < nodes) = true := by simp [hy]
      clear hn1
      rcases ha2 with rfl | rfl
      · go_enter Try.func36, Try.ntmps36
        go_wp2_with fail
        refine HCk.out.mono ?_
        rintro e w1 ⟨rfl, b1⟩
        go_wp2_with fail
        (try simp only [Exit.inBlock, Exit.then]); refine bodyPost_ret (results_four rfl _ _ _) rfl ?_
        exact rGrantPost_no b1
      · go_enter Try.func36, Try.ntmps36
        go_wp2_with fail
        refine HCk.out.mono ?_
        rintro e w1 ⟨rfl, b1⟩
        go_wp2_with fail
        (try simp only [Exit.inBlock, Exit.then]); refine bodyPost_ret (results_four rfl _ _ _) rfl ?_
        exact rGrantPost_no b1
  obtain ⟨N, rfl⟩ : ∃ k : Nat, nodes = (k : Int) := ⟨nodes.toNat, by omega⟩
  rw [if_neg hn1]
  have hN1 : 1 ≤ N := by omega
  have hN48 : N ≤ 48 := by omega
  have d1 : decide ((N : Int) < 1) = false := by simp; omega
  have d2 : decide ((48 : Int) < (N : Int)) = false := by simp; omega
  clear hn1
  have hlow := lowT_sel (N := N) hck'
  have hsel : ((sel freeQ l l.length).take N).Pairwise (· < ·) := (sel_up _ _ _).sublist (List.take_sublist _ _)
  have hslt : ∀ x ∈ (sel freeQ l l.length).take N, x < 64 := fun x hx => by
    have := sel_lt x (List.mem_of_mem_take hx)
    omega
  have hs64 : setM ((sel freeQ l l.length).take N) < 2 ^ 64 := setM_lt _ _ hsel hslt
  have HUp := Lib.hid hsel
  have HLt := Lib.hid hslt
  have HS64 := Lib.hid hs64
  have HEa := Lib.hid fun (w1 : World) (b : Below w.heap.size w w1) => reach_any A l.length c l (setM ((sel freeQ l l.length).take N)) act job now w1 (h.below b) hn hs64
  have HLow := Lib.hid hlow
  have HH := Lib.hid h
  clear hlow h hsel hslt hs64 hck'
  change Calls _ _ _ _ (RGrantPost (gEnd l (lowT (whereN freeQ l) (N : Int)) act job now) w)
  rcases ha2 with rfl | rfl
  · go_enter Try.func36, Try.ntmps36
    go_wp2_with fail
    refine HCk.out.mono ?_
    rintro e w2 ⟨rfl, b2⟩
    go_wp2_with fail
    go_loopw [14, 15] (fun X Y wr => GSRel w2 l N X Y wr) (fun _ Y _ => l.length - (intOf Y).toNat)
    case atStart => exact ⟨0, none, 0, 0, by omega, rfl, rfl, by omega, by simpa [sel, nats] using SOwn.nil _ _ _ _, Lib.hid (by simp [sel]), Below.refl _ _⟩
    case round =>
      obtain ⟨k, A1, n1, c1, hk, rfl, rfl, hnk, ho, hl1, hbel⟩ := hrel
      have HO := Lib.hid ho
      clear ho
      have b0r := below_step b2 hbel
      by_cases hlt : k < l.length
      · obtain ⟨b, off, s, rfl, hb, hs, q0, q1, q2, q3, q4, q5, q6⟩ := Lst.seven (HH.out.below b0r) hlt
        have hsn := sel_snoc (q := freeQ) hs
        clear q1 q2 q4 q5 q6 hs
        cases hc1 : (s.st == 0)
        · have HSn : Hid (sel freeQ l (k + 1) = sel freeQ l k) := by
            show _ = _
            have : freeQ s = false := by simp [freeQ, hc1]
            rw [hsn, this]; simp
          clear hsn
          go_wp2_with fail
          exact ⟨⟨k + 1, A1, n1, c1, by omega, rfl, by go_num, by omega, by rw [HSn.out]; exact HO.out, Lib.hid (by rw [HSn.out]; exact hl1.out), hbel⟩, by simp [intOf]; omega⟩
        · cases hc2 : s.dr
          case true =>
            have HSn : Hid (sel freeQ l (k + 1) = sel freeQ l k) := by
              show _ = _
              have : freeQ s = false := by simp [freeQ, hc1, hc2]
              rw [hsn, this]; simp
            clear hsn
            rw [hc2] at q3
            go_wp2_with fail
            exact ⟨⟨k + 1, A1, n1, c1, by omega, rfl, by go_num, by omega, by rw [HSn.out]; exact HO.out, Lib.hid (by rw [HSn.out]; exact hl1.out), hbel⟩, by simp [intOf]; omega⟩
          case false =>
            have hsn' : sel freeQ l (k + 1) = sel freeQ l k ++ [k] := by
              have : freeQ s = true := by simp [freeQ, hc1, hc2]
              rw [hsn, this]; simp
            rw [hc2] at q3
            clear hsn
            by_cases hN : n1 < N
            · have d3 : decide ((n1 : Int) < (N : Int)) = true := by simp [hN]
              have ht : (sel freeQ l k).take N = sel freeQ l k := take_lt_len (by rw [← hl1.out]; exact hN)
              have ht1 : (sel freeQ l (k + 1)).take N = (sel freeQ l k).take N ++ [k] := by
                rw [ht, hsn']
                refine List.take_of_length_le ?_
                rw [List.length_append, List.length_singleton]
                have := hl1.out
                rw [ht] at this
                omega
              obtain ⟨U, hU⟩ : ∃ U, U = wr.alloc (.cells #[.int .i64 (k : Int)] 3) := ⟨_, rfl⟩
              have bU : Below wr.heap.size wr U := by rw [hU]; exact (Below.refl _ _).alloc (Nat.le_refl _) _
              have sU : Ints U (some ⟨wr.heap.size, 0, none⟩) 1 [(k : Int)] := by rw [hU]; exact Lst.new layI wr (k : Int) #[.int .i64 (k : Int)] 3 rfl
              obtain ⟨A2, c2, w3, hrun, o3, b3, _, _⟩ := app_s layI (P := Try.prog) U w2.heap.size 51 51 3 _ 8 Try.underlying51 intInfo rfl A1 n1 c1 _ (HO.out.below bU) (some ⟨wr.heap.size, 0, none⟩) 1 1 [(k : Int)] sU (by simp only [maxLen]; omega) (by omega) (Nat.le_trans hbel.size bU.size)
              have hnn : nats ((sel freeQ l k).take N) ++ [(k : Int)] = nats ((sel freeQ l (k + 1)).take N) := by rw [ht1, nats_append]; rfl
              rw [hnn] at o3
              have HR := Lib.hid hrun
              have HO2 := Lib.hid o3
              rw [hU] at HR
              have b03 := (below_step hbel bU).trans b3
              have HL1 : Hid (n1 + 1 = ((sel freeQ l (k + 1)).take N).length) := by
                show _ = _
                rw [ht1, List.length_append, List.length_singleton, ← hl1.out]
              clear hrun o3 sU hU hnn hsn' ht ht1
              go_wp2_with (at_builtin; refine wpList_app2 rfl _ _ rfl rfl rfl HR.out ?_)
              exact ⟨⟨k + 1, A2, n1 + 1, c2, by omega, rfl, by go_num, by omega, HO2.out, HL1, b03⟩, by simp [intOf]; omega⟩
            · have d3 : decide ((n1 : Int) < (N : Int)) = false := by simp; omega
              have HSn : Hid ((sel freeQ l (k + 1)).take N = (sel freeQ l k).take N) := by
                show _ = _
                rw [hsn']
                exact take_take_snoc (by rw [← hl1.out]; omega)
              clear hsn'
              go_wp2_with fail
              exact ⟨⟨k + 1, A1, n1, c1, by omega, rfl, by go_num, by omega, by rw [HSn.out]; exact HO.out, Lib.hid (by rw [HSn.out]; exact hl1.out), hbel⟩, by simp [intOf]; omega⟩
      · obtain rfl : k = l.length := by omega
        have HI := Lib.hid (HO.out.lst layI)
        by_cases hN : n1 < N
        · have d3 : decide ((n1 : Int) < (N : Int)) = true := by simp [hN]
          have hlt' : (sel freeQ l l.length).length < N := by
            have := hl1.out
            rw [List.length_take] at this
            omega
          have hlow := HLow.out
          rw [if_pos hlt'] at hlow
          have HFin : Hid (gEnd l (lowT (whereN freeQ l) (N : Int)) 1 job now = ([], 0, [], 130)) := by show _ = _; rw [hlow, gEnd, if_pos rfl]
          clear hlow hlt'
          go_wp2_with fail
          (try simp only [Exit.inBlock, Exit.then]); refine bodyPost_ret (results_four rfl _ _ _) rfl ?_
          rw [HFin.out]
          exact rGrantPost_no b0r
        · have d3 : decide ((n1 : Int) < (N : Int)) = false := by simp; omega
          have hlt' : ¬ (sel freeQ l l.length).length < N := by
            have := hl1.out
            rw [List.length_take] at this
            omega
          have hlow := HLow.out
          rw [if_neg hlt'] at hlow
          have hfin : gEnd l (lowT (whereN freeQ l) (N : Int)) 1 job now = if (eachT l (setM ((sel freeQ l l.length).take N)) 1 job now).2.2 = 0 then ((eachT l (setM ((sel freeQ l l.length).take N)) 1 job now).1, setM ((sel freeQ l l.length).take N), (eachT l (setM ((sel freeQ l l.length).take N)) 1 job now).2.1, 0) else ([], 0, [], (eachT l (setM ((sel freeQ l l.length).take N)) 1 job now).2.2) := by rw [hlow, gEnd, if_neg (by simp)]
          clear hlow hlt'
          have HSet := Lib.hid (r9set_any A1 n1 c1 _ wr HI.out (SOwn.max HO.out) HUp.out HLt.out)
          obtain ⟨q, hq⟩ : ∃ q, q = setM ((sel freeQ l l.length).take N) := ⟨_, rfl⟩
          simp only [← hq] at HEa HSet hfin
          obtain ⟨r, hr⟩ : ∃ r, r = eachT l q 1 job now := ⟨_, rfl⟩
          rw [← hr] at HEa hfin
          clear hr hq
          obtain ⟨r1, r2, r3⟩ := r
          simp only at HEa hfin
          by_cases he : r3 = 0
          · subst he
            rw [if_pos rfl] at hfin
            have HFin := Lib.hid hfin
            clear hfin
            go_wp2_with fail
            refine HSet.out.mono ?_
            rintro e w3 ⟨rfl, rfl⟩
            go_wp2_with fail
            refine (HEa.out _ b0r).mono ?_
            rintro e w4 ⟨B, d, C, f, rfl, o4, m4, p4, b4⟩
            have HO4 := Lib.hid o4
            have HP4 := Lib.hid p4
            clear o4 p4
            go_wp2_with fail
            (try simp only [Exit.inBlock, Exit.then]); refine bodyPost_ret (results_four rfl _ _ _) rfl ?_
            rw [HFin.out]
            exact ⟨B, d, C, f, rfl, HO4.out, m4, HP4.out.mono b0r.size, below_step b0r b4⟩
          · rw [if_neg he] at hfin
            have HFin := Lib.hid hfin
            clear hfin
            have e1 : (r3 == 0) = false := by simpa using he
            have e2 : (r3 != 0) = true := by simpa using he
            go_wp2_with fail
            refine HSet.out.mono ?_
            rintro e w3 ⟨rfl, rfl⟩
            go_wp2_with fail
            refine (HEa.out _ b0r).mono ?_
            rintro e w4 ⟨B, d, C, f, rfl, o4, m4, p4, b4⟩
            clear o4 p4
            go_wp2_with fail
            (try simp only [Exit.inBlock, Exit.then]); refine bodyPost_ret (results_four rfl _ _ _) rfl ?_
            rw [HFin.out]
            exact rGrantPost_no (below_step b0r b4)
  · go_enter Try.func36, Try.ntmps36
    go_wp2_with fail
    refine HCk.out.mono ?_
    rintro e w2 ⟨rfl, b2⟩
    go_wp2_with fail
    go_loopw [14, 15] (fun X Y wr => GSRel w2 l N X Y wr) (fun _ Y _ => l.length - (intOf Y).toNat)
    case atStart => exact ⟨0, none, 0, 0, by omega, rfl, rfl, by omega, by simpa [sel, nats] using SOwn.nil _ _ _ _, Lib.hid (by simp [sel]), Below.refl _ _⟩
    case round =>
      obtain ⟨k, A1, n1, c1, hk, rfl, rfl, hnk, ho, hl1, hbel⟩ := hrel
      have HO := Lib.hid ho
      clear ho
      have b0r := below_step b2 hbel
      by_cases hlt : k < l.length
      · obtain ⟨b, off, s, rfl, hb, hs, q0, q1, q2, q3, q4, q5, q6⟩ := Lst.seven (HH.out.below b0r) hlt
        have hsn := sel_snoc (q := freeQ) hs
        clear q1 q2 q4 q5 q6 hs
        cases hc1 : (s.st == 0)
        · have HSn : Hid (sel freeQ l (k + 1) = sel freeQ l k) := by
            show _ = _
            have : freeQ s = false := by simp [freeQ, hc1]
            rw [hsn, this]; simp
          clear hsn
          go_wp2_with fail
          exact ⟨⟨k + 1, A1, n1, c1, by omega, rfl, by go_num, by omega, by rw [HSn.out]; exact HO.out, Lib.hid (by rw [HSn.out]; exact hl1.out), hbel⟩, by simp [intOf]; omega⟩
        · cases hc2 : s.dr
          case true =>
            have HSn : Hid (sel freeQ l (k + 1) = sel freeQ l k) := by
              show _ = _
              have : freeQ s = false := by simp [freeQ, hc1, hc2]
              rw [hsn, this]; simp
            clear hsn
            rw [hc2] at q3
            go_wp2_with fail
            exact ⟨⟨k + 1, A1, n1, c1, by omega, rfl, by go_num, by omega, by rw [HSn.out]; exact HO.out, Lib.hid (by rw [HSn.out]; exact hl1.out), hbel⟩, by simp [intOf]; omega⟩
          case false =>
            have hsn' : sel freeQ l (k + 1) = sel freeQ l k ++ [k] := by
              have : freeQ s = true := by simp [freeQ, hc1, hc2]
              rw [hsn, this]; simp
            rw [hc2] at q3
            clear hsn
            by_cases hN : n1 < N
            · have d3 : decide ((n1 : Int) < (N : Int)) = true := by simp [hN]
              have ht : (sel freeQ l k).take N = sel freeQ l k := take_lt_len (by rw [← hl1.out]; exact hN)
              have ht1 : (sel freeQ l (k + 1)).take N = (sel freeQ l k).take N ++ [k] := by
                rw [ht, hsn']
                refine List.take_of_length_le ?_
                rw [List.length_append, List.length_singleton]
                have := hl1.out
                rw [ht] at this
                omega
              obtain ⟨U, hU⟩ : ∃ U, U = wr.alloc (.cells #[.int .i64 (k : Int)] 3) := ⟨_, rfl⟩
              have bU : Below wr.heap.size wr U := by rw [hU]; exact (Below.refl _ _).alloc (Nat.le_refl _) _
              have sU : Ints U (some ⟨wr.heap.size, 0, none⟩) 1 [(k : Int)] := by rw [hU]; exact Lst.new layI wr (k : Int) #[.int .i64 (k : Int)] 3 rfl
              obtain ⟨A2, c2, w3, hrun, o3, b3, _, _⟩ := app_s layI (P := Try.prog) U w2.heap.size 51 51 3 _ 8 Try.underlying51 intInfo rfl A1 n1 c1 _ (HO.out.below bU) (some ⟨wr.heap.size, 0, none⟩) 1 1 [(k : Int)] sU (by simp only [maxLen]; omega) (by omega) (Nat.le_trans hbel.size bU.size)
              have hnn : nats ((sel freeQ l k).take N) ++ [(k : Int)] = nats ((sel freeQ l (k + 1)).take N) := by rw [ht1, nats_append]; rfl
              rw [hnn] at o3
              have HR := Lib.hid hrun
              have HO2 := Lib.hid o3
              rw [hU] at HR
              have b03 := (below_step hbel bU).trans b3
              have HL1 : Hid (n1 + 1 = ((sel freeQ l (k + 1)).take N).length) := by
                show _ = _
                rw [ht1, List.length_append, List.length_singleton, ← hl1.out]
              clear hrun o3 sU hU hnn hsn' ht ht1
              go_wp2_with (at_builtin; refine wpList_app2 rfl _ _ rfl rfl rfl HR.out ?_)
              exact ⟨⟨k + 1, A2, n1 + 1, c2, by omega, rfl, by go_num, by omega, HO2.out, HL1, b03⟩, by simp [intOf]; omega⟩
            · have d3 : decide ((n1 : Int) < (N : Int)) = false := by simp; omega
              have HSn : Hid ((sel freeQ l (k + 1)).take N = (sel freeQ l k).take N) := by
                show _ = _
                rw [hsn']
                exact take_take_snoc (by rw [← hl1.out]; omega)
              clear hsn'
              go_wp2_with fail
              exact ⟨⟨k + 1, A1, n1, c1, by omega, rfl, by go_num, by omega, by rw [HSn.out]; exact HO.out, Lib.hid (by rw [HSn.out]; exact hl1.out), hbel⟩, by simp [intOf]; omega⟩
      · obtain rfl : k = l.length := by omega
        have HI := Lib.hid (HO.out.lst layI)
        by_cases hN : n1 < N
        · have d3 : decide ((n1 : Int) < (N : Int)) = true := by simp [hN]
          have hlt' : (sel freeQ l l.length).length < N := by
            have := hl1.out
            rw [List.length_take] at this
            omega
          have hlow := HLow.out
          rw [if_pos hlt'] at hlow
          have HFin : Hid (gEnd l (lowT (whereN freeQ l) (N : Int)) 2 job now = ([], 0, [], 130)) := by show _ = _; rw [hlow, gEnd, if_pos rfl]
          clear hlow hlt'
          go_wp2_with fail
          (try simp only [Exit.inBlock, Exit.then]); refine bodyPost_ret (results_four rfl _ _ _) rfl ?_
          rw [HFin.out]
          exact rGrantPost_no b0r
        · have d3 : decide ((n1 : Int) < (N : Int)) = false := by simp; omega
          have hlt' : ¬ (sel freeQ l l.length).length < N := by
            have := hl1.out
            rw [List.length_take] at this
            omega
          have hlow := HLow.out
          rw [if_neg hlt'] at hlow
          have hfin : gEnd l (lowT (whereN freeQ l) (N : Int)) 2 job now = if (eachT l (setM ((sel freeQ l l.length).take N)) 2 job now).2.2 = 0 then ((eachT l (setM ((sel freeQ l l.length).take N)) 2 job now).1, setM ((sel freeQ l l.length).take N), (eachT l (setM ((sel freeQ l l.length).take N)) 2 job now).2.1, 0) else ([], 0, [], (eachT l (setM ((sel freeQ l l.length).take N)) 2 job now).2.2) := by rw [hlow, gEnd, if_neg (by simp)]
          clear hlow hlt'
          have HSet := Lib.hid (r9set_any A1 n1 c1 _ wr HI.out (SOwn.max HO.out) HUp.out HLt.out)
          obtain ⟨q, hq⟩ : ∃ q, q = setM ((sel freeQ l l.length).take N) := ⟨_, rfl⟩
          simp only [← hq] at HEa HSet hfin
          obtain ⟨r, hr⟩ : ∃ r, r = eachT l q 2 job now := ⟨_, rfl⟩
          rw [← hr] at HEa hfin
          clear hr hq
          obtain ⟨r1, r2, r3⟩ := r
          simp only at HEa hfin
          by_cases he : r3 = 0
          · subst he
            rw [if_pos rfl] at hfin
            have HFin := Lib.hid hfin
            clear hfin
            go_wp2_with fail
            refine HSet.out.mono ?_
            rintro e w3 ⟨rfl, rfl⟩
            go_wp2_with fail
            refine (HEa.out _ b0r).mono ?_
            rintro e w4 ⟨B, d, C, f, rfl, o4, m4, p4, b4⟩
            have HO4 := Lib.hid o4
            have HP4 := Lib.hid p4
            clear o4 p4
            go_wp2_with fail
            (try simp only [Exit.inBlock, Exit.then]); refine bodyPost_ret (results_four rfl _ _ _) rfl ?_
            rw [HFin.out]
            exact ⟨B, d, C, f, rfl, HO4.out, m4, HP4.out.mono b0r.size, below_step b0r b4⟩
          · rw [if_neg he] at hfin
            have HFin := Lib.hid hfin
            clear hfin
            have e1 : (r3 == 0) = false := by simpa using he
            have e2 : (r3 != 0) = true := by simpa using he
            go_wp2_with fail
            refine HSet.out.mono ?_
            rintro e w3 ⟨rfl, rfl⟩
            go_wp2_with fail
            refine (HEa.out _ b0r).mono ?_
            rintro e w4 ⟨B, d, C, f, rfl, o4, m4, p4, b4⟩
            clear o4 p4
            go_wp2_with fail
            (try simp only [Exit.inBlock, Exit.then]); refine bodyPost_ret (results_four rfl _ _ _) rfl ?_
            rw [HFin.out]
            exact rGrantPost_no (below_step b0r b4)
end Go.Proofs.Ytdamocjbkdknaaa.FleetW
