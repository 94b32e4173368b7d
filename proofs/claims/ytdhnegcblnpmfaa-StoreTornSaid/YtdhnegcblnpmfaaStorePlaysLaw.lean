/-
  StorePlays: the law's walk.
-/
import Derived.Test.YtdhnegcblnpmfaaStorePlays
import Derived.ProofKit
namespace Go.Proofs.Ytdhnegcblnpmfaa.StorW
open Go.RowKit Mem Stor
set_option linter.unusedVariables false

def PlayRel (W : World) (g P N : Nat) (l : List Act1) (i : Value) (wr : World) : Prop :=
  ∃ (k : Nat) (s : Sto) (A : Option Addr) (c : Nat), k ≤ l.length ∧ i = .int .i64 k ∧ s.Ok ∧ s.wr ≤ k ∧ s.bs.length = N ∧ Is wr W.heap.size g s ∧ ROwn wr W.heap.size A N c s.bs ∧
    Blk wr P 42 #[.slice A N c, .bool s.off, .int .i64 s.wr, .int .i64 s.left, .int .i64 s.keep] ∧ Below W.heap.size W wr
def PlayMid (W : World) (g P N : Nat) (s : Sto) (A : Option Addr) (c : Nat) (s' : Sto) (p f : Value) (wx : World) : Prop :=
  ∃ (Q : Nat) (A' : Option Addr) (c' : Nat), p = .pointer (some ⟨Q, 0, none⟩) ∧ f = .bool true ∧ P < Q ∧ Blk wx Q 42 #[.slice A' N c', .bool s'.off, .int .i64 s'.wr, .int .i64 s'.left, .int .i64 s'.keep] ∧
    Blk wx P 42 #[.slice A N c, .bool s.off, .int .i64 s.wr, .int .i64 s.left, .int .i64 s.keep] ∧ Is wx W.heap.size g s' ∧ ROwn wx W.heap.size A' N c' s'.bs ∧ Below W.heap.size W wx
theorem playmid_new {W w7 : World} {g P N : Nat} {s : Sto} {A : Option Addr} {c : Nat} {s' : Sto} {A' : Option Addr} {c' : Nat} (hk : Blk w7 P 42 #[.slice A N c, .bool s.off, .int .i64 s.wr, .int .i64 s.left, .int .i64 s.keep])
    (hi : Is w7 W.heap.size g s') (ho : ROwn w7 W.heap.size A' N c' s'.bs) (hb : Below W.heap.size W w7) :
    PlayMid W g P N s A c s' (.pointer (some ⟨w7.heap.size, 0, none⟩)) (.bool true) (w7.alloc (.cells #[.slice A' N c', .bool s'.off, .int .i64 s'.wr, .int .i64 s'.left, .int .i64 s'.keep] 42)) :=
  ⟨_, A', c', rfl, rfl, hk.lt, Blk.new _ _ _, hk.alloc _, hi.below ((Below.refl _ _).alloc (Nat.le_refl _) _), ho.below ((Below.refl _ _).alloc (Nat.le_refl _) _), hb.alloc hb.size _⟩
theorem playmid_old {W w7 : World} {g P Q N : Nat} {s : Sto} {A : Option Addr} {c : Nat} {s' : Sto} {A' : Option Addr} {c' : Nat} {a0 a1 a2 a3 a4 : Value} (hPQ : P < Q) (hq : Blk w7 Q 42 #[a0, a1, a2, a3, a4]) (hQ : W.heap.size ≤ Q) (hk : Blk w7 P 42 #[.slice A N c, .bool s.off, .int .i64 s.wr, .int .i64 s.left, .int .i64 s.keep])
    (hi : Is w7 W.heap.size g s') (ho : ROwn w7 W.heap.size A' N c' s'.bs) (hb : Below W.heap.size W w7) :
    PlayMid W g P N s A c s' (.pointer (some ⟨Q, 0, none⟩)) (.bool true) (((((w7.setCell ⟨Q, 0, none⟩ (.slice A' N c')).setCell ⟨Q, 1, none⟩ (.bool s'.off)).setCell ⟨Q, 2, none⟩ (.int .i64 s'.wr)).setCell ⟨Q, 3, none⟩ (.int .i64 s'.left)).setCell ⟨Q, 4, none⟩ (.int .i64 s'.keep)) :=
  ⟨Q, A', c', rfl, rfl, hPQ, set5 hq _ _ _ _ _, blk_other5 hk (by omega) _ _ _ _ _, hi.other hq (by decide) (by decide) (by decide) (other5 _ _ _ _ _ _ _), own5 ho hq _ _ _ _ _, below5 hb hQ _ _ _ _ _⟩

theorem Is.drew1 {w : World} {base g : Nat} {s : Sto} (h : Is w base g s) : Is w.drew base g s := h.below ((Below.refl _ _).drew)
def TrueB (W : World) (e : Ending) (w' : World) : Prop := e = .returned (.bool true) ∧ Below W.heap.size W w'

set_option maxHeartbeats 4000000 in
set_option maxRecDepth 100000 in
theorem plays_run (N : Nat) (A : Option Addr) (cap : Nat) (l : List Act1) (W : World) (h : Acts W A l.length l) (h1 : 1 ≤ N) (h5 : N ≤ 50) (hl : ∀ x ∈ l, x.a ≤ 9223372036854775807) (hf : fewB l = true) :
    Calls Try.prog 5 #[.int .i64 N, .slice A l.length cap] W (TrueB W) := by
  have hl1 : l.length ≤ 100 := by simp [fewB] at hf; exact hf.1
  have hl2 : ∀ x ∈ l, x.t.size ≤ 1000 := by simp [fewB] at hf; exact hf.2
  have HF : Hid (∀ w, Acts w A l.length l → Calls Try.prog 11 #[.slice A l.length cap] w fun e w' => e = .returned (.bool true) ∧ w = w') := by
    show ∀ w, _
    intro w hw
    have := few_any A l.length cap l w hw (by simp [maxLen]; omega) (fun x hx => by have := hl2 x hx; simp [maxLen]; omega)
    rw [hf] at this
    exact this
  have HA : Hid (∀ w, Calls Try.prog 12 #[] w fun e w' => e = .returned (.bool true) ∧ Below w.heap.size w w') := awake_any
  have HL2 := Lib.hid hl2
  have HLa := Lib.hid hl
  have HW := Lib.hid h
  clear hl hl2 hf h
  go_enter Try.func5, Try.ntmps5
  go_wp2_with fail
  refine (HF.out W HW.out).mono ?_
  rintro e w1 ⟨rfl, rfl⟩
  go_wp2_with fail
  refine (new_any N W h1 (by omega)).mono ?_
  rintro e w1 ⟨g, rfl, hi1, b1⟩
  go_wp2_with fail
  refine (rnew_any N w1 h1 (by omega)).mono ?_
  rintro e w2 ⟨A2, c2, rfl, ho2, b2⟩
  have hi2 := hi1.below b2
  have b3 := below_step b1 b2
  have ho3 := ho2.mono b1.size
  clear hi1 ho2 b2 b1
  unfold rv
  go_wp2_with fail
  obtain ⟨P, hP⟩ : ∃ P, P = w2.heap.size := ⟨_, rfl⟩
  have hPb : W.heap.size ≤ P := by rw [hP]; exact b3.size
  obtain ⟨V, hV⟩ : ∃ V, V = w2.alloc (.cells #[.slice A2 N c2, .bool (new N).off, .int .i64 (new N).wr, .int .i64 (new N).left, .int .i64 (new N).keep] 42) := ⟨_, rfl⟩
  have hrel0 : PlayRel W g P N l (.int .i64 0) V := by
    refine ⟨0, new N, A2, c2, by omega, rfl, new_ok N h1 (by omega), by simp [new], by simp [new], ?_, ?_, ?_, ?_⟩
    · rw [hV]; exact hi2.below ((Below.refl _ _).alloc (Nat.le_refl _) _)
    · rw [hV]; exact ho3.below ((Below.refl _ _).alloc (Nat.le_refl _) _)
    · rw [hV, hP]; exact Blk.new _ _ _
    · rw [hV]; exact b3.alloc b3.size _
  have HR0 := Lib.hid hrel0
  rw [← hP]
  clear hrel0 hi2 ho3
  rw [← hV]
  clear hV hP b3
  go_loopw [9] (fun i wr => PlayRel W g P N l i wr) (fun i _ => l.length - (intOf i).toNat)
  case atStart => exact HR0.out
  case round =>
    clear HR0 HF
    obtain ⟨k, s, A1, c1, hk, rfl, hok, hwr, hN, hi, ho, hP, hb⟩ := hrel
    by_cases hlt : k < l.length
    · obtain ⟨b, off, x, rfl, hbl, hx, hc⟩ := HW.out.at_ hlt
      have hxt := HL2.out x (List.mem_of_getElem? hx)
      have hxa := HLa.out x (List.mem_of_getElem? hx)
      have HS : Hid (∀ w', Below W.heap.size W w' → Blk w' P 42 #[.slice A1 N c1, .bool s.off, .int .i64 s.wr, .int .i64 s.left, .int .i64 s.keep] →
        ((w'.cell? ⟨P, 0, none⟩ = some (.slice A1 N c1) ∧ w'.cell? ⟨P, 1, none⟩ = some (.bool s.off) ∧ w'.cell? ⟨P, 2, none⟩ = some (.int .i64 s.wr) ∧ w'.cell? ⟨P, 3, none⟩ = some (.int .i64 s.left) ∧ w'.cell? ⟨P, 4, none⟩ = some (.int .i64 s.keep)) ∧
         (w'.cell? ⟨b, off + k * 4, none⟩ = some (.int .i64 x.k) ∧ w'.cell? ⟨b, off + k * 4 + 1, none⟩ = some (.int .i64 x.a) ∧ w'.cell? ⟨b, off + k * 4 + 2, none⟩ = some (.int .i64 x.b) ∧ w'.cell? ⟨b, off + k * 4 + 3, none⟩ = some (.string x.t)))) := by
        show ∀ w', _
        intro w' hb' hB
        have e := fun j => hb'.cell (p := ⟨b, off + k * 4 + j, none⟩) hbl
        exact ⟨(blk5 hB).1, (e 0).trans (hc 0 _ rfl), (e 1).trans (hc 1 _ rfl), (e 2).trans (hc 2 _ rfl), (e 3).trans (hc 3 _ rfl)⟩
      have HD : Hid (∀ w', Below wr.heap.size wr w' → Calls Try.prog 23 #[.pointer (some ⟨g, 0, none⟩), .agg #[.slice A1 N c1, .bool s.off, .int .i64 s.wr, .int .i64 s.left, .int .i64 s.keep], .agg #[.int .i64 x.k, .int .i64 x.a, .int .i64 x.b, .string x.t]] w' (DoesPost W.heap.size g N (act s x) w')) := by
        show ∀ w', _
        intro w' hb'
        have := does_any W.heap.size g A1 c1 s x w' (by rw [hN]; exact ho.below hb') (hi.below hb') (Nat.le_trans hb.size hb'.size) hok (by omega) hxt
        rw [hN] at this
        exact this
      have HOk := Lib.hid (act_ok hok x hxa)
      have hLn := act_len s x
      rw [hN] at hLn
      have HLn := Lib.hid hLn
      have HWr := Lib.hid (act_wr s x)
      have hPl := hP.lt
      have HHX := Lib.hid hwr
      clear hx hc hok hN hLn hwr hi ho
      obtain ⟨s', hs'⟩ : ∃ s', s' = act s x := ⟨_, rfl⟩
      rw [← hs'] at HD HOk HLn HWr
      clear hs'
      go_wp2_with fail
      go_cut [10, 11] (fun p f wx => PlayMid W g P N s A1 c1 s' p f wx)
      case first =>
        go_region_held3 (fun w' => (w'.cell? ⟨P, 0, none⟩ = some (.slice A1 N c1) ∧ w'.cell? ⟨P, 1, none⟩ = some (.bool s.off) ∧ w'.cell? ⟨P, 2, none⟩ = some (.int .i64 s.wr) ∧ w'.cell? ⟨P, 3, none⟩ = some (.int .i64 s.left) ∧ w'.cell? ⟨P, 4, none⟩ = some (.int .i64 s.keep)) ∧
         (w'.cell? ⟨b, off + k * 4, none⟩ = some (.int .i64 x.k) ∧ w'.cell? ⟨b, off + k * 4 + 1, none⟩ = some (.int .i64 x.a) ∧ w'.cell? ⟨b, off + k * 4 + 2, none⟩ = some (.int .i64 x.b) ∧ w'.cell? ⟨b, off + k * 4 + 3, none⟩ = some (.string x.t)))
          (first | with_reducible exact HS.out _ hb.drew hP.drew | with_reducible exact HS.out _ (hb.drew.alloc hb.size _) (hP.drew.alloc _) | with_reducible exact HS.out _ ((hb.alloc hb.size _).drew) ((hP.alloc _).drew) | with_reducible exact HS.out _ hb9 hP7 | with_reducible exact HS.out _ (hb9.alloc hb9.size _) (hP7.alloc _) | with_reducible exact HS.out _ (below5 hb9 hQ _ _ _ _ _) (blk_other5 hP7 (Nat.ne_of_lt hPl) _ _ _ _ _))
          (first
            | (go_at_call 23; refine (HD.out wr.drew ((Below.refl _ _).drew)).mono ?_; rintro e w7 ⟨A7, c7, rfl, ho7, hi7, hb7, hk7⟩; unfold rv; have hP7 := hk7.blk hP.drew (by decide) (by decide); have hb9 : Below W.heap.size W w7 := hb.drew.trans hb7)
            | (go_at_call 23; refine (HD.out (wr.alloc ZO).drew (((Below.refl _ _).alloc (Nat.le_refl _) _).drew)).mono ?_; rintro e w7 ⟨A7, c7, rfl, ho7, hi7, hb7, hk7⟩; unfold rv; have hP7 := hk7.blk ((hP.alloc _).drew) (by decide) (by decide); have hb9 : Below W.heap.size W w7 := ((hb.alloc hb.size _).drew).trans hb7; have hQ7 := hk7.blk ((Blk.new wr 42 _).drew) (by decide) (by decide); obtain ⟨⟨z0, z1, z2, z3, z4⟩, y0, y1, y2, y3, y4⟩ := blk5 hQ7; have hQ : W.heap.size ≤ wr.heap.size := hb.size))
        all_goals go_wp2_with fail
        all_goals go_meet
        · exact playmid_new hP7 hi7 ho7 hb9
        · exact playmid_old hPl hQ7 hQ hP7 hi7 ho7 hb9
      case rest =>
        clear HD HS
        obtain ⟨Q, A', c', rfl, rfl, hPQ, hkQ, hkP, hiQ, hoQ, hbQ⟩ := hcut
        have hoo : ((!s'.off) == s'.off) = false := by cases s'.off <;> rfl
        have HS : Hid (∀ w', Blk w' Q 42 #[.slice A' N c', .bool s'.off, .int .i64 s'.wr, .int .i64 s'.left, .int .i64 s'.keep] →
          (w'.cell? ⟨Q, 0, none⟩ = some (.slice A' N c') ∧ w'.cell? ⟨Q, 1, none⟩ = some (.bool s'.off) ∧ w'.cell? ⟨Q, 2, none⟩ = some (.int .i64 s'.wr))) := by
          show ∀ w', _
          intro w' hB
          exact ⟨(blk5 hB).1.1, (blk5 hB).1.2.1, (blk5 hB).1.2.2.1⟩
        have HOn := Lib.hid (on_any _ _ _ _ hiQ.drew1 HOk.out)
        have HWri := Lib.hid (writes_any _ _ _ _ hiQ.drew1 HOk.out)
        have HSz := Lib.hid (size_is (N : Int) _ _ _ _ hiQ.drew1 HOk.out (by rw [HLn.out]))
        have hIm := image_any _ _ _ _ hiQ.drew1 HOk.out
        unfold ImgPost at hIm
        rw [HLn.out] at hIm
        have HIm := Lib.hid hIm
        clear hIm
        have HSm : Hid (∀ (w9 : World) (A9 : Option Addr) (c9 : Nat), Below wc.heap.size wc w9 → w9.ownsRow wc.drew.heap.size 9 1 (.slice A9 N c9) N (sv s'.bs) → Calls Try.prog 25 #[.slice A9 N c9, .slice A' N c'] w9 (SamePost true w9)) := by
          show ∀ (w9 : World), _
          intro w9 A9 c9 hb h9
          exact same_yes _ _ _ _ _ _ _ _ _ (Txs.of_ownc (OwnC.of_own h9)) (hoQ.below hb).txs (by unfold maxLen; omega) (by unfold maxLen; omega) rfl
        go_wp2_with fail
        go_region_held3 (fun w' => (w'.cell? ⟨Q, 0, none⟩ = some (.slice A' N c') ∧ w'.cell? ⟨Q, 1, none⟩ = some (.bool s'.off) ∧ w'.cell? ⟨Q, 2, none⟩ = some (.int .i64 s'.wr)))
          (first | with_reducible exact HS.out _ hkQ.drew | with_reducible exact HS.out _ q9 | with_reducible exact HS.out _ q11)
          (first
            | (go_at_call 19; refine HOn.out.mono ?_; rintro e w5 ⟨rfl, rfl⟩)
            | (go_at_call 20; refine HWri.out.mono ?_; rintro e w5 ⟨rfl, rfl⟩)
            | (go_at_call 24; refine HSz.out.mono ?_; rintro e w5 ⟨rfl, rfl⟩)
            | (go_at_call 17; refine HIm.out.mono ?_; rintro e w9 ⟨A9, c9, rfl, h9, b9⟩; have q9 := hkQ.drew.below b9 hkQ.drew.lt)
            | (go_at_call 25; refine (HSm.out w9 A9 c9 (below_step ((Below.refl _ _).drew) b9) h9).mono ?_; rintro e w11 ⟨rfl, d, rfl⟩; have q11 := q9.drewN d))
        have b12 : Below wc.heap.size wc (w9.drewN d) := below_drewN (below_step ((Below.refl _ _).drew) b9) d
        have p11 := hkP.below b12 hkP.lt
        have i11 := hiQ.below b12
        have o11 := hoQ.below b12
        have b13 := below_step hbQ b12
        obtain ⟨⟨z0, z1, z2, z3, z4⟩, y0, y1, y2, y3, y4⟩ := blk5 q11
        obtain ⟨⟨v0, v1, v2, v3, v4⟩, x0, x1, x2, x3, x4⟩ := blk5 p11
        have HI := Lib.hid i11
        have HO := Lib.hid o11
        clear HOn HWri HSz HIm HSm HS h9 b9 q9 hkQ hkP hiQ hoQ hbQ b12 i11 o11
        go_wp2_with fail
        refine ⟨⟨k + 1, s', A', c', by omega, by go_num, HOk.out, ?_, HLn.out, HI.out.other p11 (by decide) (by decide) (by decide) (other5 _ _ _ _ _ _ _), own5 HO.out p11 _ _ _ _ _, set5 p11 _ _ _ _ _, below5 b13 hPb _ _ _ _ _⟩, by simp [intOf]; omega⟩
        have := HWr.out
        have := HHX.out
        push_cast
        omega
    · obtain rfl : k = l.length := by omega
      clear hi ho hP hok
      go_wp2_with fail
      refine (HA.out _).mono ?_
      rintro e w4 ⟨rfl, hb4⟩
      go_wp2_with fail
      go_ret
      exact ⟨rfl, below_step hb hb4⟩

set_option maxHeartbeats 1000000 in
set_option maxRecDepth 100000 in
theorem plays_any (n : Int) (A : Option Addr) (len cap : Nat) (l : List Act1) (W : World) (h : Acts W A len l) (hn : len ≤ maxLen) (hl : ∀ x ∈ l, x.t.size ≤ maxLen ∧ x.a ≤ 9223372036854775807) :
    Calls Try.prog 5 #[.int .i64 n, .slice A len cap] W fun e w' => e = .returned (.bool true) ∧ Below W.heap.size W w' := by
  have hlen := h.len
  subst hlen
  have HF := Lib.hid (few_any A l.length cap l W h hn (fun x hx => (hl x hx).1))
  have HA : Hid (∀ w, Calls Try.prog 12 #[] w fun e w' => e = .returned (.bool true) ∧ Below w.heap.size w w') := awake_any
  cases hf : fewB l
  · rw [hf] at HF
    clear hf h hn hl
    go_enter Try.func5, Try.ntmps5
    go_wp2_with fail
    refine HF.out.mono ?_
    rintro e w1 ⟨rfl, rfl⟩
    go_wp2_with fail
    refine (HA.out _).mono ?_
    rintro e w4 ⟨rfl, hb4⟩
    go_wp2_with fail
    go_ret
    exact ⟨rfl, hb4⟩
  · by_cases hm : 50 < n ∧ n ≤ 400
    · rw [hf] at HF
      obtain ⟨m1, m2⟩ := hm
      clear hf h hn hl
      go_enter Try.func5, Try.ntmps5
      go_wp2_with fail
      refine HF.out.mono ?_
      rintro e w1 ⟨rfl, rfl⟩
      go_wp2_with fail
      refine (HA.out _).mono ?_
      rintro e w4 ⟨rfl, hb4⟩
      go_wp2_with fail
      go_ret
      exact ⟨rfl, hb4⟩
    · by_cases hr : 1 ≤ n ∧ n ≤ 50
      · obtain ⟨N, rfl⟩ := Int.eq_ofNat_of_zero_le (show 0 ≤ n by omega)
        exact plays_run N A cap l W h (by omega) (by omega) (fun x hx => (hl x hx).2) hf
      · rw [hf] at HF
        have hb : n < 1 ∨ 400 < n := by omega
        clear hf h hn hl hm hr
        have hb' := hb
        rcases hb with hb | hb
        all_goals
          go_enter Try.func5, Try.ntmps5
          go_wp2_with fail
          refine HF.out.mono ?_
          rintro e w1 ⟨rfl, rfl⟩
          go_wp2_with fail
          refine (new_no n W hb').mono ?_
          rintro e w1 ⟨rfl, rfl⟩
          go_wp2_with fail
          refine (rnew_no n W hb').mono ?_
          rintro e w2 ⟨rfl, b2⟩
          go_wp2_with fail
          refine (HA.out _).mono ?_
          rintro e w4 ⟨rfl, hb4⟩
          go_wp2_with fail
          go_ret
          exact ⟨rfl, below_step (b2.alloc b2.size _) hb4⟩

end Go.Proofs.Ytdhnegcblnpmfaa.StorW
