/-
  StoreTorn: what a write leaves, plainly; and the law's walk.
-/
import Derived.Test.YtdhnegcblnpmfaaStorePlays
import Derived.Test.YtdhnegcblnpmfaaStorePlaysLaw
namespace Go.Proofs.Ytdhnegcblnpmfaa.StorW
open Go.RowKit Mem Stor
set_option linter.unusedVariables false

theorem torn_other (s : Sto) (i : Int) (b : List UInt8) (j : Nat) (h : (j : Int) ≠ i) : (write s i b).1.bs[j]? = s.bs[j]? := by
  unfold write
  split
  · rfl
  · split
    · rfl
    · rename_i hr _
      have hi : 0 ≤ i := by
        unfold reach at hr
        repeat' split at hr
        all_goals omega
      split
      all_goals exact List.getElem?_set_ne (by omega)
theorem torn_no (s : Sto) (i : Int) (b : List UInt8) (h : i < 0 ∨ (s.bs.length : Int) ≤ i ∨ b.length ≠ 256) : (write s i b).2 ≠ 0 := by
  unfold write
  split
  · assumption
  · rename_i hr
    have hi : 0 ≤ i ∧ i < s.bs.length := by
      unfold reach at hr
      repeat' split at hr
      all_goals omega
    rw [if_pos (by omega)]
    simp
theorem torn_ok (s : Sto) (i : Nat) (b : List UInt8) (hi : i < s.bs.length) (h : (write s i b).2 = 0) : (write s i b).1.bs[i]? = some b := by
  unfold write at h ⊢
  split at h
  · contradiction
  · rename_i hr
    rw [if_neg hr]
    split at h
    · cases h
    · rename_i hb
      rw [if_neg hb]
      split at h
      · cases h
      · rename_i hl
        rw [if_neg hl]
        exact List.getElem?_set_self hi
theorem torn_part {s : Sto} (hok : s.Ok) (i : Nat) (b o : List UInt8) (ho : s.bs[i]? = some o) (hb : b.length = 256) (h : (write s i b).2 ≠ 0) : ∃ K : Nat, K ≤ 256 ∧ (write s i b).1.bs[i]? = some (b.take K ++ o.drop K) := by
  unfold write at h ⊢
  by_cases hr : reach s i ≠ 0
  · rw [if_pos hr]
    exact ⟨0, by omega, by simpa using ho⟩
  · rw [if_neg hr] at h ⊢
    rw [if_neg (by simp [hb])] at h ⊢
    by_cases hl : s.left = 1
    · rw [if_pos hl]
      have h0 := hok.k0
      have h1 := hok.k1
      refine ⟨s.keep.toNat, by omega, ?_⟩
      show (s.bs.set i _)[i]? = _
      rw [List.getElem?_set_self (List.getElem?_eq_some_iff.1 ho).1]
      simp [List.getD, ho]
    · rw [if_neg hl] at h
      exact absurd rfl h

theorem St.mono {w : World} {base b' g : Nat} {s : Sto} {hs : List Nat} {A : Option Addr} {c : Nat} (h : St w base g s hs A c) (hb : b' ≤ base) : St w b' g s hs A c := by
  refine ⟨Nat.le_trans hb h.gb, h.blk, ⟨h.own.1, ?_⟩, h.len, h.nodup, fun i x b h1 h2 => ⟨Nat.le_trans hb (h.data i x b h1 h2).1, (h.data i x b h1 h2).2⟩⟩
  rcases h.own.2 with h2 | ⟨g', cap, cur, hv', hg', r⟩
  · exact .inl h2
  · exact .inr ⟨g', cap, cur, hv', Nat.le_trans hb hg', r⟩
theorem Is.mono {w : World} {base b' g : Nat} {s : Sto} (h : Is w base g s) (hb : b' ≤ base) : Is w b' g s := by
  obtain ⟨hs, A, c, h⟩ := h
  exact ⟨hs, A, c, h.mono hb⟩
theorem torn_eq {y1 y2 T : List UInt8} {K : Nat} (h : y2 = T.take K ++ y1.drop K) : ((str y2).toList == ((str T).extract 0 K ++ (str y1).extract K (str y1).size).toList) = true := by
  have e : str y2 = (str T).extract 0 K ++ (str y1).extract K (str y1).size := by
    have h1 : ((str T).extract 0 K ++ (str y1).extract K (str y1).size).data.toList = y2 := by
      rw [ByteArray.data_append, Array.toList_append, Lib.extract_data, Lib.extract_data, str_data, str_data, str_size, h]
      simp [List.take_of_length_le]
    rw [← str_of ((str T).extract 0 K ++ (str y1).extract K (str y1).size), h1]
  rw [e]
  exact beq_self_eq_true _
def TornRel (W : World) (g N : Nat) (a : Act1) (l : List Act1) (i : Value) (wr : World) : Prop :=
  ∃ (k : Nat) (s : Sto), k ≤ l.length ∧ i = .int .i64 k ∧ s.Ok ∧ s.wr ≤ k ∧ s.bs.length = N ∧ Is wr W.heap.size g s ∧ Blk wr W.heap.size 24 #[.int .i64 a.k, .int .i64 a.a, .int .i64 a.b, .string a.t] ∧ Below W.heap.size W wr

theorem acts_one_new (w : World) (x : Act1) (t : TypeId) : Acts (w.alloc (.cells #[.int .i64 x.k, .int .i64 x.a, .int .i64 x.b, .string x.t] t)) (some ⟨w.heap.size, 0, none⟩) 1 [x] := by
  refine ⟨rfl, by simp [actRow], fun _ => ⟨_, _, rfl, by simp, fun i r hr j v hv => ?_⟩⟩
  have hb := Blk.new w t #[.int .i64 x.k, .int .i64 x.a, .int .i64 x.b, .string x.t]
  cases i with
  | zero =>
    simp at hr
    subst hr
    rw [hb.cell]
    simpa [actRow] using hv
  | succ i => simp at hr

set_option maxHeartbeats 4000000 in
set_option maxRecDepth 100000 in
theorem torn_run (N : Nat) (A : Option Addr) (cap : Nat) (l : List Act1) (a : Act1) (W : World) (h : Acts W A l.length l) (h1 : 1 ≤ N) (h5 : N ≤ 50) (hl : ∀ x ∈ l, x.a ≤ 9223372036854775807) (hf : fewB l = true) (ha : a.t.size ≤ 1000) :
    Calls Try.prog 3 #[.int .i64 N, .slice A l.length cap, .agg #[.int .i64 a.k, .int .i64 a.a, .int .i64 a.b, .string a.t]] W (TrueB W) := by
  have hl1 : l.length ≤ 100 := by simp [fewB] at hf; exact hf.1
  have hl2 : ∀ x ∈ l, x.t.size ≤ 1000 := by simp [fewB] at hf; exact hf.2
  have HF : Hid (∀ w, Acts w A l.length l → Calls Try.prog 11 #[.slice A l.length cap] w fun e w' => e = .returned (.bool true) ∧ w = w') := by
    show ∀ w, _
    intro w hw
    have := few_any A l.length cap l w hw (by simp [maxLen]; omega) (fun x hx => by have := hl2 x hx; simp [maxLen]; omega)
    rw [hf] at this
    exact this
  have HF1 : Hid (∀ w b, Acts w (some ⟨b, 0, none⟩) 1 [a] → Calls Try.prog 11 #[.slice (some ⟨b, 0, none⟩) 1 1] w fun e w' => e = .returned (.bool true) ∧ w = w') := by
    show ∀ w b, _
    intro w b hw
    have := few_any _ 1 1 [a] w hw (by simp [maxLen]) (fun x hx => by simp at hx; subst hx; simp [maxLen]; omega)
    rw [few_mk (by simp) (by simp; exact ha)] at this
    exact this
  have HA : Hid (∀ w, Calls Try.prog 12 #[] w fun e w' => e = .returned (.bool true) ∧ Below w.heap.size w w') := awake_any
  have HL2 := Lib.hid hl2
  have HLa := Lib.hid hl
  have HW := Lib.hid h
  clear hl hl2 hf h
  go_enter Try.func3, Try.ntmps3
  go_wp2_with fail
  obtain ⟨V, hV⟩ : ∃ V, V = W.alloc (.cells #[.int .i64 a.k, .int .i64 a.a, .int .i64 a.b, .string a.t] 24) := ⟨_, rfl⟩
  have hbx : Blk V W.heap.size 24 #[.int .i64 a.k, .int .i64 a.a, .int .i64 a.b, .string a.t] := by rw [hV]; exact Blk.new _ _ _
  have bV : Below W.heap.size W V := by rw [hV]; exact (Below.refl _ _).alloc (Nat.le_refl _) _
  rw [← hV]
  clear hV
  obtain ⟨x0, x1, x2, x3⟩ := blk4 hbx
  refine (HF.out V (HW.out.below bV)).mono ?_
  rintro e w1 ⟨rfl, rfl⟩
  go_wp2_with fail
  refine (HF1.out _ _ (acts_one_new V a _)).mono ?_
  rintro e w1 ⟨rfl, rfl⟩
  have hbx2 := hbx.alloc (.cells #[.int .i64 a.k, .int .i64 a.a, .int .i64 a.b, .string a.t] 24)
  have bV2 := bV.alloc bV.size (.cells #[.int .i64 a.k, .int .i64 a.a, .int .i64 a.b, .string a.t] 24)
  clear x0 x1 x2 x3
  go_wp2_with fail
  refine (new_any N _ h1 (by omega)).mono ?_
  rintro e w1 ⟨g, rfl, hi1, b1⟩
  have hrel0 : TornRel W g N a l (.int .i64 0) w1 := by
    refine ⟨0, new N, by omega, rfl, new_ok N h1 (by omega), by simp [new], by simp [new], ?_, hbx2.below b1 hbx2.lt, below_step bV2 b1⟩
    exact hi1.mono bV2.size
  have HR0 := Lib.hid hrel0
  clear hrel0 hi1 hbx2 bV2 b1 hbx bV HF HF1
  go_wp2_with fail
  go_loopw [9] (fun i wr => TornRel W g N a l i wr) (fun i _ => l.length - (intOf i).toNat)
  case atStart => exact HR0.out
  case round =>
    clear HR0
    obtain ⟨k, s, hk, rfl, hok, hwr, hN, hi, hP, hb⟩ := hrel
    by_cases hlt : k < l.length
    · obtain ⟨b, off, x, rfl, hbl, hx, hc⟩ := HW.out.at_ hlt
      have hxt := HL2.out x (List.mem_of_getElem? hx)
      have hxa := HLa.out x (List.mem_of_getElem? hx)
      have HS : Hid (∀ w', Below W.heap.size W w' → 
         (w'.cell? ⟨b, off + k * 4, none⟩ = some (.int .i64 x.k) ∧ w'.cell? ⟨b, off + k * 4 + 1, none⟩ = some (.int .i64 x.a) ∧ w'.cell? ⟨b, off + k * 4 + 2, none⟩ = some (.int .i64 x.b) ∧ w'.cell? ⟨b, off + k * 4 + 3, none⟩ = some (.string x.t))) := by
        show ∀ w', _
        intro w' hb'
        have e := fun j => hb'.cell (p := ⟨b, off + k * 4 + j, none⟩) hbl
        exact ⟨(e 0).trans (hc 0 _ rfl), (e 1).trans (hc 1 _ rfl), (e 2).trans (hc 2 _ rfl), (e 3).trans (hc 3 _ rfl)⟩
      obtain ⟨c0, _⟩ := HS.out wr hb
      have HWr := Lib.hid hwr
      have HOk := Lib.hid hok
      have HN := Lib.hid hN
      have HX := Lib.hid hx
      have HI := Lib.hid hi
      have HP := Lib.hid hP
      clear hx hc hwr hok hN hi hP
      by_cases hk1 : x.k = 1
      · have hq : (x.k == 1) = true := by simpa using hk1
        have HT : Hid (∀ w', Calls Try.prog 15 #[.agg #[.int .i64 x.k, .int .i64 x.a, .int .i64 x.b, .string x.t]] w' (WholeP (textL x.t.data.toList) w')) := fun w' => text_any x.k x.a x.b x.t w' hxt
        have HD : Hid (∀ w', Is w' W.heap.size g s → Calls Try.prog 14 #[.pointer (some ⟨g, 0, none⟩), .int .i64 x.a, .string (str (textL x.t.data.toList))] w' (IsPost W.heap.size g (write s x.a (textL x.t.data.toList)).1 (write s x.a (textL x.t.data.toList)).2 w')) := by
          show ∀ w', _
          intro w' h'
          have hw1 := HWr.out
          exact write_any _ _ _ _ _ _ h' HOk.out (by omega) (textL_size x.t hxt)
        clear hk1
        go_wp2_with fail
        go_region_held3 (fun w' => (w'.cell? ⟨b, off + k * 4, none⟩ = some (.int .i64 x.k) ∧ w'.cell? ⟨b, off + k * 4 + 1, none⟩ = some (.int .i64 x.a) ∧ w'.cell? ⟨b, off + k * 4 + 2, none⟩ = some (.int .i64 x.b) ∧ w'.cell? ⟨b, off + k * 4 + 3, none⟩ = some (.string x.t)))
          (first | with_reducible exact HS.out _ hb.drew | with_reducible exact HS.out _ hb6 | with_reducible exact HS.out _ hb8)
          (first
            | (go_at_call 15; refine (HT.out wr.drew).mono ?_; rintro e w5 ⟨rfl, hb5⟩; have hb6 : Below W.heap.size W w5 := below_step hb.drew hb5; have hi6 := HI.out.drew1.below hb5; have hp6 := HP.out.drew.below hb5 HP.out.drew.lt)
            | (go_at_call 14; refine (HD.out w5 hi6).mono ?_; rintro e w7 ⟨rfl, hi7, hb7, hk7⟩; have hb8 : Below W.heap.size W w7 := hb6.trans hb7; have hp7 := hk7.blk hp6 (by decide) (by decide)))
        go_wp2_with fail
        refine ⟨⟨k + 1, _, by omega, by go_num, write_ok HOk.out _ _, ?_, by rw [write_len]; exact HN.out, hi7, hp7, hb8⟩, by simp [intOf]; omega⟩
        have := (write_wr s x.a (textL x.t.data.toList)).2
        have := HWr.out
        push_cast
        omega
      · have hq : (x.k == 1) = false := by simpa using hk1
        by_cases hk2 : x.k = 2
        · have hq2 : (x.k == 2) = true := by simpa using hk2
          have HD : Hid (∀ w', Is w' W.heap.size g s → Calls Try.prog 16 #[.pointer (some ⟨g, 0, none⟩), .int .i64 x.a, .int .i64 x.b] w' (IsPost W.heap.size g (arm s x.a x.b).1 (arm s x.a x.b).2 w')) := by
            show ∀ w', _
            intro w' h'
            exact arm_any _ _ _ _ _ _ h' HOk.out
          clear hk1 hk2
          go_wp2_with fail
          go_region_held3 (fun w' => (w'.cell? ⟨b, off + k * 4, none⟩ = some (.int .i64 x.k) ∧ w'.cell? ⟨b, off + k * 4 + 1, none⟩ = some (.int .i64 x.a) ∧ w'.cell? ⟨b, off + k * 4 + 2, none⟩ = some (.int .i64 x.b) ∧ w'.cell? ⟨b, off + k * 4 + 3, none⟩ = some (.string x.t)))
            (first | with_reducible exact HS.out _ hb.drew | with_reducible exact HS.out _ hb8)
            (first
              | (go_at_call 16; refine (HD.out wr.drew HI.out.drew1).mono ?_; rintro e w7 ⟨rfl, hi7, hb7, hk7⟩; have hb8 : Below W.heap.size W w7 := hb.drew.trans hb7; have hp7 := hk7.blk HP.out.drew (by decide) (by decide)))
          go_wp2_with fail
          refine ⟨⟨k + 1, _, by omega, by go_num, arm_ok HOk.out _ _ hxa, ?_, ?_, hi7, hp7, hb8⟩, by simp [intOf]; omega⟩
          · have e : (arm s x.a x.b).1.wr = s.wr := by
              unfold arm; repeat' split
              all_goals rfl
            rw [e]
            have := HWr.out
            push_cast
            omega
          · rw [← HN.out]
            unfold arm; repeat' split
            all_goals rfl
        · have hq2 : (x.k == 2) = false := by simpa using hk2
          clear hk1 hk2
          go_wp2_with fail
          refine ⟨⟨k + 1, s, by omega, by go_num, HOk.out, ?_, HN.out, HI.out, HP.out, hb⟩, by simp [intOf]; omega⟩
          have := HWr.out
          push_cast
          omega
    · have HIm := Lib.hid (image_any _ _ _ _ hi hok)
      have HOk := Lib.hid hok
      clear HL2 HLa HW
      go_wp2_with fail
      refine HIm.out.mono ?_
      rintro e w2 ⟨A1, c1, rfl, ho2, b2⟩
      rw [hN] at ho2
      rw [hN]
      have hi2 := hi.below b2
      have hp2 := hP.below b2 hP.lt
      have bb2 := below_step hb b2
      have hwr2 : s.wr < 1000000 := by omega
      obtain ⟨ws, hws⟩ : ∃ ws, ws = write s a.a (textL a.t.data.toList) := ⟨_, rfl⟩
      have HWS := Lib.hid hws
      have hsl : ws.1.bs.length = N := by rw [hws, write_len]; exact hN
      have HSL := Lib.hid hsl
      have HN := Lib.hid hN
      have HT : Hid (∀ w', Calls Try.prog 15 #[.agg #[.int .i64 a.k, .int .i64 a.a, .int .i64 a.b, .string a.t]] w' (WholeP (textL a.t.data.toList) w')) := fun w' => text_any a.k a.a a.b a.t w' ha
      have HD : Hid (∀ w', Is w' W.heap.size g s → Calls Try.prog 14 #[.pointer (some ⟨g, 0, none⟩), .int .i64 a.a, .string (str (textL a.t.data.toList))] w' (IsPost W.heap.size g ws.1 ws.2 w')) := by
        show ∀ w', _
        intro w' h'
        rw [hws]
        exact write_any _ _ _ _ _ _ h' HOk.out hwr2 (textL_size a.t ha)
      have HOk2 : Hid (ws.1.Ok) := by rw [hws]; exact write_ok HOk.out _ _
      have HS : Hid (∀ w', Blk w' W.heap.size 24 #[.int .i64 a.k, .int .i64 a.a, .int .i64 a.b, .string a.t] →
         (w'.cell? ⟨W.heap.size, 0, none⟩ = some (.int .i64 a.k) ∧ w'.cell? ⟨W.heap.size, 1, none⟩ = some (.int .i64 a.a) ∧ w'.cell? ⟨W.heap.size, 2, none⟩ = some (.int .i64 a.b) ∧ w'.cell? ⟨W.heap.size, 3, none⟩ = some (.string a.t))) := by
        show ∀ w', _
        intro w' h'
        exact blk4 h'
      have HI2 := Lib.hid hi2
      have HO2 := Lib.hid ho2
      clear hi ho2 b2 hws hsl hN hwr hok hi2 hP hb HIm
      obtain ⟨s', f⟩ := ws
      simp only at HD HSL HOk2
      go_wp2_with fail
      go_region_held3 (fun w' => (w'.cell? ⟨W.heap.size, 0, none⟩ = some (.int .i64 a.k) ∧ w'.cell? ⟨W.heap.size, 1, none⟩ = some (.int .i64 a.a) ∧ w'.cell? ⟨W.heap.size, 2, none⟩ = some (.int .i64 a.b) ∧ w'.cell? ⟨W.heap.size, 3, none⟩ = some (.string a.t)))
        (first | with_reducible exact HS.out _ hp2.drew | with_reducible exact HS.out _ hp5 | with_reducible exact HS.out _ hp7)
        (first
          | (go_at_call 15; refine (HT.out w2.drew).mono ?_; rintro e w5 ⟨rfl, hb5⟩; have hp5 := hp2.drew.below hb5 hp2.drew.lt)
          | (go_at_call 14; refine (HD.out w5 (HI2.out.drew1.below hb5)).mono ?_; rintro e w7 ⟨rfl, hi7, hb7, hk7⟩; have hp7 := hk7.blk hp5 (by decide) (by decide)))
      have ho7 := own_keep (own_below HO2.out (below_step (Below.drew (Below.refl _ _)) hb5)) hk7
      have bb7 := (below_step bb2.drew hb5).trans hb7
      clear HI2 HO2 hb5 hb7 hp2 hp5 hk7 bb2 HD
      have HIm := Lib.hid (image_any _ _ _ _ hi7 HOk2.out)
      go_wp2_with fail
      refine HIm.out.mono ?_
      rintro e w8 ⟨A2, c2, rfl, ho8, b8⟩
      have htw := Txs.of_ownc (OwnC.of_own (own_below ho7 b8))
      have htn := Txs.of_ownc (OwnC.of_own ho8)
      have hp8 := hp7.below b8 hp7.lt
      have bb8 := below_step bb7 b8
      rw [HSL.out]
      rw [HSL.out] at htn
      clear ho7 ho8 b8 hi7 hp7 bb7 HIm HOk2
      obtain ⟨x0, x1, x2, x3⟩ := blk4 hp8
      go_wp2_with fail
      have HTW := Lib.hid htw
      have HTN := Lib.hid htn
      have HP8 := Lib.hid hp8
      clear htw htn hp8
      go_loopw [13] (fun i wr => ∃ k d : Nat, k ≤ N ∧ i = .int .i64 k ∧ wr = w8.drewN d) (fun i _ => N - (intOf i).toNat)
      case atStart => exact ⟨0, 0, by omega, rfl, rfl⟩
      case round =>
        obtain ⟨j, d, hj, rfl, rfl⟩ := hrel
        by_cases hjN : j < N
        · obtain ⟨b1, o1, y1, rfl, _, hy1, hc1⟩ := HTW.out.at_ hjN
          obtain ⟨b2, o2, y2, rfl, _, hy2, hc2⟩ := HTN.out.at_ hjN
          by_cases hja : (j : Int) = a.a
          · have hq : ((j : Int) != a.a) = false := by simpa using hja
            have hq2 : (a.a != (j : Int)) = false := by simp [hja]
            clear hja hy1 hy2
            go_wp2_with fail
            go_quiet (fail)
            go_wp2_with fail
            exact ⟨⟨j + 1, _, by omega, by go_num, rfl⟩, by simp [intOf]; omega⟩
          · have hq : ((j : Int) != a.a) = true := by simpa using hja
            have e := torn_other s a.a (textL a.t.data.toList) j hja
            rw [← HWS.out, hy1, hy2] at e
            injection e with e
            subst e
            clear hja hy1 hy2
            go_wp2_with fail
            go_quiet (fail)
            go_wp2_with fail
            exact ⟨⟨j + 1, _, by omega, by go_num, rfl⟩, by simp [intOf]; omega⟩
        · have hbase8 : W.heap.size ≤ w8.heap.size := bb8.size
          have hbd := below_drewN bb8 d
          by_cases hr1 : a.a < 0
          · have hf0 : (f != 0) = true := by
              have := torn_no s a.a (textL a.t.data.toList) (.inl hr1)
              rw [← HWS.out] at this
              simpa using this
            go_wp2_with fail
            refine (HA.out _).mono ?_
            rintro e w4 ⟨rfl, hb4⟩
            go_wp2_with fail
            go_ret
            exact ⟨rfl, below_step hbd hb4⟩
          · by_cases hr2 : (N : Int) ≤ a.a
            · have hf0 : (f != 0) = true := by
                have := torn_no s a.a (textL a.t.data.toList) (.inr (.inl (by rw [HN.out]; exact hr2)))
                rw [← HWS.out] at this
                simpa using this
              go_wp2_with fail
              refine (HA.out _).mono ?_
              rintro e w4 ⟨rfl, hb4⟩
              go_wp2_with fail
              go_ret
              exact ⟨rfl, below_step hbd hb4⟩
            · have hr3 : 0 ≤ a.a := by omega
              have hr4 : a.a < (N : Int) := by omega
              have hr5 : a.a.toNat < N := by omega
              obtain ⟨T, hT⟩ : ∃ T, T = textL a.t.data.toList := ⟨_, rfl⟩
              rw [← hT] at HT HWS
              clear hT hr1 hr2
              obtain ⟨b1, o1, y1, rfl, hlt1, hy1, hc1⟩ := HTW.out.at_ hr5
              obtain ⟨b2, o2, y2, rfl, hlt2, hy2, hc2⟩ := HTN.out.at_ hr5
              have HY1 := Lib.hid hy1
              have HY2 := Lib.hid hy2
              clear hy1 hy2
              by_cases hTl : T.length = 256
              · have hq3 : (((str T).size : Int) != 256) = false := by rw [str_size, hTl]; decide
                by_cases hf : f = 0
                · subst hf
                  have HTl := Lib.hid hTl
                  clear hTl
                  go_wp2_with fail
                  refine (HT.out _).mono ?_
                  rintro e w9 ⟨rfl, hb9⟩
                  have b9 := below_step hbd hb9
                  have hy : y2 = T := by
                    have := torn_ok s a.a.toNat T (by rw [HN.out]; exact hr5) (by rw [Int.toNat_of_nonneg hr3, ← HWS.out])
                    rw [Int.toNat_of_nonneg hr3, ← HWS.out, HY2.out] at this
                    injection this
                  subst hy
                  have hp9 := (HP8.out.drewN d).below hb9 (HP8.out.drewN d).lt
                  have hc9 : w9.cell? ⟨b2, o2 + a.a.toNat, none⟩ = some (.string (str y2)) := (hb9.cell (p := ⟨b2, o2 + a.a.toNat, none⟩) hlt2).trans hc2
                  have HS2 : Hid (∀ w', Below w9.heap.size w9 w' → ((w'.cell? ⟨W.heap.size, 0, none⟩ = some (.int .i64 a.k) ∧ w'.cell? ⟨W.heap.size, 1, none⟩ = some (.int .i64 a.a) ∧ w'.cell? ⟨W.heap.size, 2, none⟩ = some (.int .i64 a.b) ∧ w'.cell? ⟨W.heap.size, 3, none⟩ = some (.string a.t)) ∧ w'.cell? ⟨b2, o2 + a.a.toNat, none⟩ = some (.string (str y2)))) := by
                    show ∀ w', _
                    intro w' h'
                    exact ⟨blk4 (hp9.below h' hp9.lt), (h'.cell (p := ⟨b2, o2 + a.a.toNat, none⟩) (Nat.lt_of_lt_of_le hlt2 hb9.size)).trans hc9⟩
                  clear hb9 hbd hc2 hc1 hc9 hp9 HP8 HS
                  go_wp2_with fail
                  go_region_held3 (fun w' => ((w'.cell? ⟨W.heap.size, 0, none⟩ = some (.int .i64 a.k) ∧ w'.cell? ⟨W.heap.size, 1, none⟩ = some (.int .i64 a.a) ∧ w'.cell? ⟨W.heap.size, 2, none⟩ = some (.int .i64 a.b) ∧ w'.cell? ⟨W.heap.size, 3, none⟩ = some (.string a.t)) ∧ w'.cell? ⟨b2, o2 + a.a.toNat, none⟩ = some (.string (str y2))))
                    (first | with_reducible exact HS2.out _ ((Below.refl _ _).drew) | with_reducible exact HS2.out _ b10 | with_reducible exact HS2.out _ b12)
                    (first
                      | (go_at_call 15; refine (HT.out w9.drew).mono ?_; rintro e w10 ⟨rfl, hb10⟩; have b10 : Below w9.heap.size w9 w10 := below_step ((Below.refl _ _).drew) hb10)
                      | (go_at_call 12; refine (HA.out w10).mono ?_; rintro e w12 ⟨rfl, hb12⟩; have b12 : Below w9.heap.size w9 w12 := below_step b10 hb12))
                  go_wp2_with fail
                  go_ret
                  exact ⟨rfl, below_step b9 b12⟩
                · have hf0 : (f == 0) = false := by simpa using hf
                  have HTl := Lib.hid hTl
                  clear hTl
                  go_wp2_with fail
                  refine (HT.out _).mono ?_
                  rintro e w9 ⟨rfl, hb9⟩
                  have b9 := below_step hbd hb9
                  obtain ⟨K, hK, hy⟩ : ∃ K : Nat, K ≤ 256 ∧ y2 = T.take K ++ y1.drop K := by
                    obtain ⟨K, hK, h⟩ := torn_part HOk.out a.a.toNat T y1 HY1.out HTl.out (by rw [Int.toNat_of_nonneg hr3, ← HWS.out]; exact hf)
                    rw [Int.toNat_of_nonneg hr3, ← HWS.out, HY2.out] at h
                    injection h with h
                    exact ⟨K, hK, h⟩
                  have HY := Lib.hid hy
                  have hy1l : y1.length = 256 := HOk.out.whole y1 (List.mem_of_getElem? HY1.out)
                  have hs1 : (str y1).size ≤ 256 := by rw [str_size]; omega
                  have hs1' : 256 ≤ (str y1).size := by rw [str_size]; omega
                  have hs2 : (str T).size ≤ 256 := by rw [str_size, HTl.out]; omega
                  have hs2' : 256 ≤ (str T).size := by rw [str_size, HTl.out]; omega
                  have hp9 := (HP8.out.drewN d).below hb9 (HP8.out.drewN d).lt
                  have hc9 : w9.cell? ⟨b2, o2 + a.a.toNat, none⟩ = some (.string (str y2)) := (hb9.cell (p := ⟨b2, o2 + a.a.toNat, none⟩) hlt2).trans hc2
                  have hc8 : w9.cell? ⟨b1, o1 + a.a.toNat, none⟩ = some (.string (str y1)) := (hb9.cell (p := ⟨b1, o1 + a.a.toNat, none⟩) hlt1).trans hc1
                  have HS2 : Hid (∀ w', Below w9.heap.size w9 w' → ((w'.cell? ⟨W.heap.size, 0, none⟩ = some (.int .i64 a.k) ∧ w'.cell? ⟨W.heap.size, 1, none⟩ = some (.int .i64 a.a) ∧ w'.cell? ⟨W.heap.size, 2, none⟩ = some (.int .i64 a.b) ∧ w'.cell? ⟨W.heap.size, 3, none⟩ = some (.string a.t)) ∧ w'.cell? ⟨b2, o2 + a.a.toNat, none⟩ = some (.string (str y2)) ∧ w'.cell? ⟨b1, o1 + a.a.toNat, none⟩ = some (.string (str y1)))) := by
                    show ∀ w', _
                    intro w' h'
                    exact ⟨blk4 (hp9.below h' hp9.lt), (h'.cell (p := ⟨b2, o2 + a.a.toNat, none⟩) (Nat.lt_of_lt_of_le hlt2 hb9.size)).trans hc9, (h'.cell (p := ⟨b1, o1 + a.a.toNat, none⟩) (Nat.lt_of_lt_of_le hlt1 hb9.size)).trans hc8⟩
                  clear hb9 hbd hc2 hc1 hc9 hc8 hp9 HP8 HS hy hy1l
                  go_wp2_with fail
                  go_loopw [14] (fun i wr => ∃ k : Nat, k ≤ K ∧ i = .int .i64 k ∧ Below w9.heap.size w9 wr) (fun i _ => 257 - (intOf i).toNat)
                  case atStart => exact ⟨0, by omega, rfl, Below.refl _ _⟩
                  case round =>
                    obtain ⟨q, hq, rfl, bq⟩ := hrel
                    have hq6 : q ≤ 256 := by omega
                    have hq7 : q ≤ (str T).size := by omega
                    have hq8 : q ≤ (str y1).size := by omega
                    have hq9 : ¬ 9223372036854775807 < (str y1).size := by omega
                    have HQ : Hid (q = K → ((str y2).toList == ((str T).extract 0 q ++ (str y1).extract q (str y1).size).toList) = true) := by
                      show q = K → _
                      rintro rfl
                      exact torn_eq HY.out
                    cases he : ((str y2).toList == ((str T).extract 0 q ++ (str y1).extract q (str y1).size).toList)
                    · have hqK : q < K := by
                        rcases Nat.lt_or_ge q K with h | h
                        · exact h
                        · have := HQ.out (by omega)
                          rw [he] at this
                          cases this
                      clear HQ
                      go_wp2_with fail
                      go_region_held3 (fun w' => ((w'.cell? ⟨W.heap.size, 0, none⟩ = some (.int .i64 a.k) ∧ w'.cell? ⟨W.heap.size, 1, none⟩ = some (.int .i64 a.a) ∧ w'.cell? ⟨W.heap.size, 2, none⟩ = some (.int .i64 a.b) ∧ w'.cell? ⟨W.heap.size, 3, none⟩ = some (.string a.t)) ∧ w'.cell? ⟨b2, o2 + a.a.toNat, none⟩ = some (.string (str y2)) ∧ w'.cell? ⟨b1, o1 + a.a.toNat, none⟩ = some (.string (str y1))))
                        (first | with_reducible exact HS2.out _ bq.drew | with_reducible exact HS2.out _ b10)
                        (first
                          | (go_at_call 15; refine (HT.out wr.drew).mono ?_; rintro e w10 ⟨rfl, hb10⟩; have b10 : Below w9.heap.size w9 w10 := below_step bq.drew hb10))
                      all_goals go_wp2_with fail
                      all_goals exact ⟨⟨q + 1, by omega, by go_num, b10⟩, by simp [intOf]; omega⟩
                    · clear HQ
                      go_wp2_with fail
                      go_region_held3 (fun w' => ((w'.cell? ⟨W.heap.size, 0, none⟩ = some (.int .i64 a.k) ∧ w'.cell? ⟨W.heap.size, 1, none⟩ = some (.int .i64 a.a) ∧ w'.cell? ⟨W.heap.size, 2, none⟩ = some (.int .i64 a.b) ∧ w'.cell? ⟨W.heap.size, 3, none⟩ = some (.string a.t)) ∧ w'.cell? ⟨b2, o2 + a.a.toNat, none⟩ = some (.string (str y2)) ∧ w'.cell? ⟨b1, o1 + a.a.toNat, none⟩ = some (.string (str y1))))
                        (first | with_reducible exact HS2.out _ bq.drew | with_reducible exact HS2.out _ b10)
                        (first
                          | (go_at_call 15; refine (HT.out wr.drew).mono ?_; rintro e w10 ⟨rfl, hb10⟩; have b10 : Below w9.heap.size w9 w10 := below_step bq.drew hb10))
                      all_goals go_wp2_with fail
                      all_goals refine (HA.out _).mono ?_
                      all_goals rintro e w12 ⟨rfl, hb12⟩
                      all_goals go_wp2_with fail
                      all_goals go_ret
                      all_goals exact ⟨rfl, below_step b9 (below_step b10 hb12)⟩
              · have hq3 : (((str T).size : Int) != 256) = true := by rw [str_size, bne_iff_ne]; omega
                have hf0 : (f != 0) = true := by
                  have := torn_no s a.a T (.inr (.inr hTl))
                  rw [← HWS.out] at this
                  simpa using this
                clear hTl
                go_wp2_with fail
                refine (HT.out _).mono ?_
                rintro e w9 ⟨rfl, hb9⟩
                go_wp2_with fail
                refine (HA.out _).mono ?_
                rintro e w4 ⟨rfl, hb4⟩
                go_wp2_with fail
                go_ret
                exact ⟨rfl, below_step (below_step hbd hb9) hb4⟩

def fewA (a : Act1) : Bool := decide (a.t.size ≤ 1000)
set_option maxHeartbeats 1000000 in
set_option maxRecDepth 100000 in
theorem torn_any (n : Int) (A : Option Addr) (len cap : Nat) (l : List Act1) (a : Act1) (W : World) (h : Acts W A len l) (hn : len ≤ maxLen) (hl : ∀ x ∈ l, x.t.size ≤ maxLen ∧ x.a ≤ 9223372036854775807) (ha : a.t.size ≤ maxLen) :
    Calls Try.prog 3 #[.int .i64 n, .slice A len cap, .agg #[.int .i64 a.k, .int .i64 a.a, .int .i64 a.b, .string a.t]] W fun e w' => e = .returned (.bool true) ∧ Below W.heap.size W w' := by
  have hlen := h.len
  subst hlen
  have HF : Hid (∀ w, Acts w A l.length l → Calls Try.prog 11 #[.slice A l.length cap] w fun e w' => e = .returned (.bool (fewB l)) ∧ w = w') := by
    show ∀ w, _
    intro w hw
    exact few_any A l.length cap l w hw hn (fun x hx => (hl x hx).1)
  have HF1 : Hid (∀ w b, Acts w (some ⟨b, 0, none⟩) 1 [a] → Calls Try.prog 11 #[.slice (some ⟨b, 0, none⟩) 1 1] w fun e w' => e = .returned (.bool (fewB [a])) ∧ w = w') := by
    show ∀ w b, _
    intro w b hw
    exact few_any _ 1 1 [a] w hw (by simp [maxLen]) (fun x hx => by simp at hx; subst hx; exact ha)
  have HA : Hid (∀ w, Calls Try.prog 12 #[] w fun e w' => e = .returned (.bool true) ∧ Below w.heap.size w w') := awake_any
  by_cases hall : fewB l = true ∧ fewB [a] = true ∧ 1 ≤ n ∧ n ≤ 50
  · obtain ⟨h1, h2, h3, h4⟩ := hall
    obtain ⟨N, rfl⟩ := Int.eq_ofNat_of_zero_le (show 0 ≤ n by omega)
    exact torn_run N A cap l a W h (by omega) (by omega) (fun x hx => (hl x hx).2) h1 (by simp [fewB] at h2; exact h2)
  · have HW := Lib.hid h
    clear hl h hn
    cases hf : fewB l
    · rw [hf] at HF
      clear hf hall
      go_enter Try.func3, Try.ntmps3
      go_wp2_with fail
      refine (HF.out _ (HW.out.below ((Below.refl _ _).alloc (Nat.le_refl _) _))).mono ?_
      rintro e w1 ⟨rfl, rfl⟩
      go_wp2_with fail
      refine (HA.out _).mono ?_
      rintro e w4 ⟨rfl, hb4⟩
      go_wp2_with fail
      go_ret
      exact ⟨rfl, below_step ((Below.refl _ _).alloc (Nat.le_refl _) _) hb4⟩
    · rw [hf] at HF hall
      cases hg : fewB [a]
      · rw [hg] at HF1
        clear hf hg hall
        go_enter Try.func3, Try.ntmps3
        go_wp2_with fail
        obtain ⟨V, hV⟩ : ∃ V, V = W.alloc (.cells #[.int .i64 a.k, .int .i64 a.a, .int .i64 a.b, .string a.t] 24) := ⟨_, rfl⟩
        have hbx : Blk V W.heap.size 24 #[.int .i64 a.k, .int .i64 a.a, .int .i64 a.b, .string a.t] := by rw [hV]; exact Blk.new _ _ _
        have bV : Below W.heap.size W V := by rw [hV]; exact (Below.refl _ _).alloc (Nat.le_refl _) _
        rw [← hV]
        clear hV
        obtain ⟨x0, x1, x2, x3⟩ := blk4 hbx
        refine (HF.out V (HW.out.below bV)).mono ?_
        rintro e w1 ⟨rfl, rfl⟩
        go_wp2_with fail
        refine (HF1.out _ _ (acts_one_new V a _)).mono ?_
        rintro e w1 ⟨rfl, rfl⟩
        have bV2 := bV.alloc bV.size (.cells #[.int .i64 a.k, .int .i64 a.a, .int .i64 a.b, .string a.t] 24)
        go_wp2_with fail
        refine (HA.out _).mono ?_
        rintro e w4 ⟨rfl, hb4⟩
        go_wp2_with fail
        go_ret
        exact ⟨rfl, below_step bV2 hb4⟩
      · rw [hg] at HF1 hall
        have hb : n < 1 ∨ 50 < n := by
          rcases Int.lt_or_le n 1 with h | h
          · exact .inl h
          · rcases Int.lt_or_le 50 n with h' | h'
            · exact .inr h'
            · exact absurd ⟨rfl, rfl, h, h'⟩ hall
        clear hf hg hall
        rcases hb with hb | hb
        all_goals
          go_enter Try.func3, Try.ntmps3
          go_wp2_with fail
          obtain ⟨V, hV⟩ : ∃ V, V = W.alloc (.cells #[.int .i64 a.k, .int .i64 a.a, .int .i64 a.b, .string a.t] 24) := ⟨_, rfl⟩
          have hbx : Blk V W.heap.size 24 #[.int .i64 a.k, .int .i64 a.a, .int .i64 a.b, .string a.t] := by rw [hV]; exact Blk.new _ _ _
          have bV : Below W.heap.size W V := by rw [hV]; exact (Below.refl _ _).alloc (Nat.le_refl _) _
          rw [← hV]
          clear hV
          obtain ⟨x0, x1, x2, x3⟩ := blk4 hbx
          refine (HF.out V (HW.out.below bV)).mono ?_
          rintro e w1 ⟨rfl, rfl⟩
          go_wp2_with fail
          refine (HF1.out _ _ (acts_one_new V a _)).mono ?_
          rintro e w1 ⟨rfl, rfl⟩
          have bV2 := bV.alloc bV.size (.cells #[.int .i64 a.k, .int .i64 a.a, .int .i64 a.b, .string a.t] 24)
          go_wp2_with fail
          refine (HA.out _).mono ?_
          rintro e w4 ⟨rfl, hb4⟩
          go_wp2_with fail
          go_ret
          exact ⟨rfl, below_step bV2 hb4⟩
end Go.Proofs.Ytdhnegcblnpmfaa.StorW
