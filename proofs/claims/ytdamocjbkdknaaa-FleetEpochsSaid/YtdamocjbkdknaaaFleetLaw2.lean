/-
  FleetEpochs: the law's walk.
-/
import Derived.Test.YtdamocjbkdknaaaFleetLaw
namespace Go.Proofs.Ytdamocjbkdknaaa.FleetW
open Go.RowKit Mem Fleet
set_option linter.unusedVariables false
set_option linter.unusedSimpArgs false
set_option linter.unnecessarySimpa false

theorem doT_good {l : List Nd} {n act job now : Int} (h : (doT l n act job now).2 = 0) : chk (doT l n act job now).1 = true := by
  obtain ⟨k, x, rfl, hx, hc, ht, hm, e⟩ := doT_ok h
  have ok := chk_iff.1 hc
  rw [e, chk_iff]
  refine ⟨by simpa using ok.some, by simpa using ok.few, fun z hz => ?_⟩
  rcases List.mem_or_eq_of_mem_set hz with hz | rfl
  · exact ok.fine z hz
  · exact done_fine (ok.fine x (mem_of_at hx)) hm ht
def EpRel (W : World) (M : Nat) (X Y : Value) (wr : World) : Prop :=
  ∃ (k : Nat) (A : Option Addr) (c : Nat) (cur : List Nd), k ≤ M ∧ X = .slice A cur.length c ∧ Y = .int .i64 k ∧ Nds wr A cur.length cur ∧ (A = none → c = 0) ∧ chk cur = true ∧ Below W.heap.size W wr
def EpRel2 (w3 : World) (N : Nat) (Y : Value) (wr : World) : Prop := ∃ k : Nat, k ≤ N ∧ Y = .int .i64 k ∧ Below w3.heap.size w3 wr
abbrev C7 (w : World) (b o : Nat) (s : Nd) : Prop := w.cell? ⟨b, o, none⟩ = some (.int .i64 s.st) ∧ w.cell? ⟨b, o + 1, none⟩ = some (.int .i64 s.jb) ∧ w.cell? ⟨b, o + 2, none⟩ = some (.int .i64 s.ep) ∧ w.cell? ⟨b, o + 3, none⟩ = some (.bool s.dr) ∧ w.cell? ⟨b, o + 4, none⟩ = some (.int .i64 s.wt) ∧ w.cell? ⟨b, o + 5, none⟩ = some (.int .i64 s.si) ∧ w.cell? ⟨b, o + 6, none⟩ = some (.int .i64 s.ak)
theorem C7.below {w w' : World} {b o : Nat} {s : Nd} (h : C7 w b o s) (hb : b < w.heap.size) (hbel : Below w.heap.size w w') : C7 w' b o s :=
  ⟨(hbel.cell (p := ⟨b, o, none⟩) hb).trans h.1, (hbel.cell (p := ⟨b, o + 1, none⟩) hb).trans h.2.1, (hbel.cell (p := ⟨b, o + 2, none⟩) hb).trans h.2.2.1, (hbel.cell (p := ⟨b, o + 3, none⟩) hb).trans h.2.2.2.1, (hbel.cell (p := ⟨b, o + 4, none⟩) hb).trans h.2.2.2.2.1, (hbel.cell (p := ⟨b, o + 5, none⟩) hb).trans h.2.2.2.2.2.1, (hbel.cell (p := ⟨b, o + 6, none⟩) hb).trans h.2.2.2.2.2.2⟩
set_option maxHeartbeats 8000000 in
set_option maxRecDepth 100000 in
theorem epochs_any (A : Option Addr) (n c : Nat) (l : List Nd) (B : Option Addr) (m d : Nat) (acts : List Ac) (W : World) (h : ArgN W A n c l) (g : Acs W B m acts) (hm : m ≤ maxLen) :
    Calls Try.prog 5 #[.slice A n c, .slice B m d] W (TrueB W) := by
  have hl := h.st.len
  have hil := g.len
  subst hl hil
  unfold maxLen at hm
  have HAw := Lib.hid fawake_any
  by_cases h1 : l.length ≤ 100
  case neg =>
    have HF := Lib.hid (nfew_is false A l.length c W (by simp; omega))
    clear h g
    go_enter Try.func5, Try.ntmps5
    go_wp2_with fail
    refine HF.out.mono ?_
    rintro e w1 ⟨rfl, rfl⟩
    go_wp2_with fail
    refine (HAw.out W).mono ?_
    rintro e w1 ⟨rfl, b1⟩
    go_wp2_with fail
    go_ret
    exact ⟨rfl, b1⟩
  have HF := Lib.hid (nfew_is true A l.length c W (by simp; omega))
  by_cases h2 : 300 < acts.length
  · have h2' : (300 : Int) < (acts.length : Int) := by omega
    clear h g
    go_enter Try.func5, Try.ntmps5
    go_wp2_with fail
    refine HF.out.mono ?_
    rintro e w1 ⟨rfl, rfl⟩
    go_wp2_with fail
    refine (HAw.out W).mono ?_
    rintro e w1 ⟨rfl, b1⟩
    go_wp2_with fail
    go_ret
    exact ⟨rfl, b1⟩
  have h2' : acts.length ≤ 300 := by omega
  have h2d : decide ((300 : Int) < (acts.length : Int)) = false := by simp; omega
  have h2i : ¬ ((300 : Int) < (acts.length : Int)) := by omega
  clear h2
  have HCk := Lib.hid (check_any A l.length c l W h.st h.max)
  cases hck : chk l
  · rw [chkE_no hck] at HCk
    clear h g hck
    go_enter Try.func5, Try.ntmps5
    go_wp2_with fail
    refine HF.out.mono ?_
    rintro e w1 ⟨rfl, rfl⟩
    go_wp2_with fail
    refine HCk.out.mono ?_
    rintro e w1 ⟨rfl, b1⟩
    go_wp2_with fail
    refine (HAw.out w1).mono ?_
    rintro e w2 ⟨rfl, b2⟩
    go_wp2_with fail
    go_ret
    exact ⟨rfl, below_step b1 b2⟩
  rw [chkE_yes hck] at HCk
  have HL := Lib.hid hck
  have HH := Lib.hid h
  have HG := Lib.hid g
  clear h g hck
  go_enter Try.func5, Try.ntmps5
  go_wp2_with fail
  refine HF.out.mono ?_
  rintro e w1 ⟨rfl, rfl⟩
  go_wp2_with fail
  refine HCk.out.mono ?_
  rintro e w1 ⟨rfl, b1⟩
  go_wp2_with fail
  go_loopw [0, 5] (fun X Y wr => EpRel W acts.length X Y wr) (fun _ Y _ => acts.length - (intOf Y).toNat)
  case atStart => exact ⟨0, A, c, l, by omega, rfl, rfl, HH.out.st.below b1, HH.out.bare, HL.out, b1⟩
  case round =>
    obtain ⟨k, A2, c2, cur, hk, rfl, rfl, hcur, hA2, hck, hbel⟩ := hrel
    obtain ⟨wo, rfl⟩ : ∃ wo : World, wo = wr := ⟨_, rfl⟩
    have HCur := Lib.hid hcur
    have HA2 := Lib.hid hA2
    have HOkc := Lib.hid (chk_iff.1 hck)
    have HCkc := Lib.hid hck
    have hc48 := (chk_iff.1 hck).few
    clear hcur hA2 hck
    by_cases hlt : k < acts.length
    · obtain ⟨b, off, a, rfl, hb, ha, d0, d1, d2, d3⟩ := Lst.act (HG.out.below hbel) hlt
      clear ha
      obtain ⟨V, hV⟩ : ∃ V, V = wo.alloc (.cells #[.int .i64 a.nd, .int .i64 a.ac, .int .i64 a.jb, .int .i64 a.nw] 42) := ⟨_, rfl⟩
      have bV : Below wo.heap.size wo V := by rw [hV]; exact (Below.refl _ _).alloc (Nat.le_refl _) _
      have kV : Blk V wo.heap.size 42 #[.int .i64 a.nd, .int .i64 a.ac, .int .i64 a.jb, .int .i64 a.nw] := by rw [hV]; exact Blk.new _ _ _
      have HDo := Lib.hid (do_any A2 cur.length c2 cur a.nd a.ac a.jb a.nw V (HCur.out.below bV) (by simp only [maxLen]; omega) HA2.out)
      have HOk := Lib.hid (doT_ok (l := cur) (n := a.nd) (act := a.ac) (job := a.jb) (now := a.nw))
      have HEr := Lib.hid (doT_err (l := cur) (n := a.nd) (act := a.ac) (job := a.jb) (now := a.nw))
      have HGd := Lib.hid (doT_good (l := cur) (n := a.nd) (act := a.ac) (job := a.jb) (now := a.nw))
      obtain ⟨r, hr⟩ : ∃ r, r = doT cur a.nd a.ac a.jb a.nw := ⟨_, rfl⟩
      rw [← hr] at HDo HOk HEr HGd
      clear hr
      go_wp2_with fail
      rw [← hV]
      clear hV d0 d1 d2 d3
      refine HDo.out.mono ?_
      rintro e w3 ⟨A3, c3, rfl, o3, d3⟩
      have b0V := below_step hbel bV
      have b03 := below_step b0V d3
      have bV3 := below_step bV d3
      by_cases he : r.2 = 0
      case neg =>
        have e1 : (r.2 != 0) = true := by simpa using he
        have e0 : r.1.length = 0 := by rw [HEr.out he]; rfl
        rw [e0]
        clear he o3 e0
        go_wp2_with fail
        exact ⟨⟨k + 1, A2, c2, cur, by omega, rfl, by go_num, HCur.out.below bV3, HA2.out, HCkc.out, b03⟩, by simp [intOf]; omega⟩
      have e1 : (r.2 != 0) = false := by simp [he]
      obtain ⟨i, x, hnd, hx, _, _, hmay, hr1⟩ := HOk.out he
      have HGood := Lib.hid (HGd.out he)
      have hrl : r.1.length = cur.length := by rw [hr1]; simp
      have HR1 := Lib.hid hr1
      have HRl := Lib.hid hrl
      have HX := Lib.hid hx
      have HEp := Lib.hid (done_ep (now := a.nw) (HOkc.out.fine x (mem_of_at hx)) hmay)
      have hil := (List.getElem?_eq_some_iff.1 hx).1
      have k3 := kV.below d3 kV.lt
      have HO3 := Lib.hid o3
      have HCk3 := Lib.hid (check_is 0 A3 r.1.length c3 r.1 w3 (o3.lst layN) (SOwn.max o3) (chkE_yes HGood.out))
      clear he o3 hmay hx HOk HGd HEr hr1
      rw [hrl]
      rw [hrl] at HO3 HCk3
      clear hrl
      have hne1 : ((cur.length : Int) != (cur.length : Int)) = false := by simp
      have hne2 : (cur.length != cur.length) = false := by simp
      go_wp2_with fail
      refine HCk3.out.mono ?_
      rintro e w4 ⟨rfl, b4⟩
      have b04 := below_step b03 b4
      have bV4 := below_step bV3 b4
      have k4 := k3.below b4 k3.lt
      rw [hnd] at k4
      clear k3
      go_wp2_with fail
      go_loopw [9] (fun Y wr => EpRel2 w4 cur.length Y wr) (fun Y _ => cur.length - (intOf Y).toNat)
      case atStart => exact ⟨0, by omega, rfl, Below.refl _ _⟩
      case round =>
        obtain ⟨j, hj, rfl, hb5⟩ := hrel
        by_cases hjl : j < cur.length
        · obtain ⟨b', off', s, e', hb', hs, D0, D1, D2, D3, D4, D5, D6⟩ := Lst.seven ((HCur.out.below bV4).below hb5) hjl
          subst e'
          obtain ⟨b6, off6, z, e6, hb6, hz, E0, E1, E2, E3, E4, E5, E6⟩ := Lst.seven (((HO3.out.below b4).lst layN).below hb5) hjl
          subst e6
          have k5 := k4.below hb5 k4.lt
          have b0 := Below.refl wr.heap.size wr
          have hki : (j : Int) < (cur.length : Int) := by omega
          have hki2 : (0 : Int) ≤ (j : Int) := by omega
          have HSw : Hid (∀ w', Below wr.heap.size wr w' → C7 w' b' (off' + j * 7) s ∧ C7 w' b6 (off6 + j * 7) z ∧ w'.cell? ⟨wo.heap.size, 0, none⟩ = some (.int .i64 (i : Int))) := fun w' hw' => ⟨C7.below ⟨D0, D1, D2, D3, D4, D5, D6⟩ hb' hw', C7.below ⟨E0, E1, E2, E3, E4, E5, E6⟩ hb6 hw', (k5.below hw' k5.lt).cell 0⟩
          go_wp2_with fail
          go_cut [129] (fun X wx => X = .bool false ∧ Below wr.heap.size wr wx)
          case first =>
            by_cases hji : j = i
            · subst hji
              have hsx : s = x := by rw [HX.out] at hs; injection hs with hs; exact hs.symm
              have hzy : z = doneN x a.ac a.jb a.nw := by
                rw [HR1.out, List.getElem?_set_self hil] at hz
                injection hz with hz
                exact hz.symm
              have p1 := HEp.out.1
              have p2 := HEp.out.2
              rw [← hzy, ← hsx] at p1 p2
              have t0 : ((j : Int) != (j : Int)) = false := by simp
              have t0' : (j != j) = false := by simp
              have t1 : decide (z.ep < s.ep) = false := by simp; omega
              have t1' : ¬ z.ep < s.ep := by omega
              clear hsx hzy hs hz D0 D1 D2 D3 D4 D5 D6 E0 E1 E2 E3 E4 E5 E6
              by_cases hjb : z.jb = s.jb
              · have t2 : (z.jb != s.jb) = false := by simp [hjb]
                clear p1 p2 hjb
                refine wp_region_cls (fun w' => Below wr.heap.size wr w') (by kernel_rfl) (by kernel_rfl) b0.drew ?_
                repeat (first
                  | (refine cq_skip ?_ ?_
                     · rfl
                     simp only [Act.put, List.setIfInBounds_toArray, List.set_cons_succ, List.set_cons_zero])
                  | (refine cq_ex ?_ ?_
                     · rfl
                     apply Exists.intro
                     refine ⟨fun w' hw' => ?_, ?_⟩
                     · obtain ⟨⟨c0, c1, c2, c3, c4, c5, c6⟩, ⟨m0, m1, m2, m3, m4, m5, m6⟩, q0⟩ := HSw.out w' hw'
                       simp [go_sem, c0, c1, c2, c3, c4, c5, c6, m0, m1, m2, m3, m4, m5, m6, q0, hki, hki2, t0, t0', t1, t1', t2]
                       try rfl
                     simp only [Act.put, List.setIfInBounds_toArray, List.set_cons_succ, List.set_cons_zero]))
                refine cq_nil ?_
                intro w' b7
                go_wp2_with fail
                go_meet
                exact ⟨rfl, b7⟩
              · have t2 : (z.jb != s.jb) = true := by simpa using hjb
                by_cases hj0 : z.jb = 0
                · have t3 : (z.jb != 0) = false := by simp [hj0]
                  clear p1 p2 hjb hj0
                  refine wp_region_cls (fun w' => Below wr.heap.size wr w') (by kernel_rfl) (by kernel_rfl) b0.drew ?_
                  repeat (first
                    | (refine cq_skip ?_ ?_
                       · rfl
                       simp only [Act.put, List.setIfInBounds_toArray, List.set_cons_succ, List.set_cons_zero])
                    | (refine cq_ex ?_ ?_
                       · rfl
                       apply Exists.intro
                       refine ⟨fun w' hw' => ?_, ?_⟩
                       · obtain ⟨⟨c0, c1, c2, c3, c4, c5, c6⟩, ⟨m0, m1, m2, m3, m4, m5, m6⟩, q0⟩ := HSw.out w' hw'
                         simp [go_sem, c0, c1, c2, c3, c4, c5, c6, m0, m1, m2, m3, m4, m5, m6, q0, hki, hki2, t0, t0', t1, t1', t2, t3]
                         try rfl
                       simp only [Act.put, List.setIfInBounds_toArray, List.set_cons_succ, List.set_cons_zero]))
                  refine cq_nil ?_
                  intro w' b7
                  go_wp2_with fail
                  go_meet
                  exact ⟨rfl, b7⟩
                · have t3 : (z.jb != 0) = true := by simpa using hj0
                  have t4 : (z.ep == s.ep) = false := by simpa using p2 hjb hj0
                  clear p1 p2 hjb hj0
                  refine wp_region_cls (fun w' => Below wr.heap.size wr w') (by kernel_rfl) (by kernel_rfl) b0.drew ?_
                  repeat (first
                    | (refine cq_skip ?_ ?_
                       · rfl
                       simp only [Act.put, List.setIfInBounds_toArray, List.set_cons_succ, List.set_cons_zero])
                    | (refine cq_ex ?_ ?_
                       · rfl
                       apply Exists.intro
                       refine ⟨fun w' hw' => ?_, ?_⟩
                       · obtain ⟨⟨c0, c1, c2, c3, c4, c5, c6⟩, ⟨m0, m1, m2, m3, m4, m5, m6⟩, q0⟩ := HSw.out w' hw'
                         simp [go_sem, c0, c1, c2, c3, c4, c5, c6, m0, m1, m2, m3, m4, m5, m6, q0, hki, hki2, t0, t0', t1, t1', t2, t3, t4]
                         try rfl
                       simp only [Act.put, List.setIfInBounds_toArray, List.set_cons_succ, List.set_cons_zero]))
                  refine cq_nil ?_
                  intro w' b7
                  go_wp2_with fail
                  go_meet
                  exact ⟨rfl, b7⟩
            · have hzs : z = s := by
                rw [HR1.out, List.getElem?_set_ne (fun e => hji e.symm), hs] at hz
                injection hz with hz
                exact hz.symm
              subst hzs
              have t0 : ((j : Int) != (i : Int)) = true := by rw [bne_iff_ne]; omega
              have t0' : (j != i) = true := by rw [bne_iff_ne]; exact hji
              clear hji hs hz D0 D1 D2 D3 D4 D5 D6 E0 E1 E2 E3 E4 E5 E6
              refine wp_region_cls (fun w' => Below wr.heap.size wr w') (by kernel_rfl) (by kernel_rfl) b0.drew ?_
              repeat (first
                | (refine cq_skip ?_ ?_
                   · rfl
                   simp only [Act.put, List.setIfInBounds_toArray, List.set_cons_succ, List.set_cons_zero])
                | (refine cq_ex ?_ ?_
                   · rfl
                   apply Exists.intro
                   refine ⟨fun w' hw' => ?_, ?_⟩
                   · obtain ⟨⟨c0, c1, c2, c3, c4, c5, c6⟩, ⟨m0, m1, m2, m3, m4, m5, m6⟩, q0⟩ := HSw.out w' hw'
                     simp [go_sem, c0, c1, c2, c3, c4, c5, c6, m0, m1, m2, m3, m4, m5, m6, q0, hki, hki2, t0, t0']
                     try rfl
                   simp only [Act.put, List.setIfInBounds_toArray, List.set_cons_succ, List.set_cons_zero]))
              refine cq_nil ?_
              intro w' b7
              go_wp2_with fail
              go_meet
              exact ⟨rfl, b7⟩
          case rest =>
            obtain ⟨rfl, b7⟩ := hcut
            clear hs hz D0 D1 D2 D3 D4 D5 D6 E0 E1 E2 E3 E4 E5 E6 k5
            go_wp2_with fail
            exact ⟨⟨j + 1, by omega, by go_num, below_step hb5 b7⟩, by simp [intOf]; omega⟩
        · obtain rfl : j = cur.length := by omega
          have HFin : Hid (EpRel W acts.length (.slice A3 cur.length c3) (.int .i64 ((k : Int) + 1)) wr) := by
            have hO := ((HO3.out.below b4).below hb5)
            refine ⟨k + 1, A3, c3, r.1, by omega, by rw [HRl.out], by go_num, ?_, hO.2.bare, HGood.out, below_step b04 hb5⟩
            rw [HRl.out]
            exact hO.lst layN
          go_wp2_with fail
          exact ⟨HFin.out, by simp [intOf]; omega⟩
    · go_wp2_with fail
      refine (HAw.out wo).mono ?_
      rintro e w2 ⟨rfl, b2⟩
      go_wp2_with fail
      go_ret
      exact ⟨rfl, below_step hbel b2⟩
end Go.Proofs.Ytdamocjbkdknaaa.FleetW
