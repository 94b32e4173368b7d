/-
  FleetOnce: the law's walk.
-/
import Derived.Test.YtdamocjbkdknaaaFleetAwake
import Derived.Test.YtdamocjbkdknaaaFleetOpen
namespace Go.Proofs.Ytdamocjbkdknaaa.FleetW
open Go.RowKit Mem Fleet
set_option linter.unusedVariables false
set_option linter.unusedSimpArgs false
set_option linter.unnecessarySimpa false

theorem doT_ok {l : List Nd} {n act job now : Int} (h : (doT l n act job now).2 = 0) : ∃ (k : Nat) (x : Nd), n = (k : Int) ∧ l[k]? = some x ∧ chk l = true ∧ tickB now = true ∧ mayB x act job = true ∧ (doT l n act job now).1 = l.set k (doneN x act job now) := by
  cases hc : chk l
  · rw [doT_chk hc] at h; cases h
  · by_cases h0 : n < 0 ∨ (l.length : Int) ≤ n
    · rw [doT_out h0] at h; cases h
    · obtain ⟨k, rfl⟩ : ∃ k : Nat, n = (k : Int) := ⟨n.toNat, by omega⟩
      have hx := List.getElem?_eq_getElem (show k < l.length by omega)
      rw [doT_at hc hx] at h ⊢
      cases ht : tickB now
      · rw [ht, if_pos rfl] at h; cases h
      · rw [ht, if_neg (by simp)] at h
        cases hm : mayB l[k] act job
        · rw [hm, if_pos rfl] at h; cases h
        · exact ⟨k, _, rfl, hx, rfl, rfl, hm, by simp⟩
theorem doT_err {l : List Nd} {n act job now : Int} (h : (doT l n act job now).2 ≠ 0) : (doT l n act job now).1 = [] := by
  unfold doT at h ⊢
  repeat' split
  all_goals first | rfl | simp_all
theorem once_step {x : Nd} {act job now : Int} (hm : mayB x act job = true) (h8 : act ≠ 8) (h11 : act ≠ 11) (hs : x.st ≠ 0) : (doneN x act job now).st ≠ 0 := by
  unfold doneN sendN
  repeat' split
  all_goals simp_all
theorem once_may {x : Nd} {act job : Int} (hm : mayB x act job = true) (h : act = 1 ∨ act = 2) : x.st = 0 := by
  unfold mayB at hm
  rw [if_pos h] at hm
  simp at hm
  omega
theorem once_new {x : Nd} {act job now : Int} (h : act = 1 ∨ act = 2) : (doneN x act job now).st ≠ 0 := by
  rcases h with rfl | rfl <;> simp [doneN, sendN]
def OnceRel (W : World) (N ν : Nat) (M : Nat) (X G Y : Value) (wr : World) : Prop :=
  ∃ (k : Nat) (A : Option Addr) (c : Nat) (cur : List Nd) (g : Bool), k ≤ M ∧ X = .slice A cur.length c ∧ G = .bool g ∧ Y = .int .i64 k ∧ Nds wr A cur.length cur ∧ (A = none → c = 0) ∧ cur.length = N ∧ (g = true → ∀ x, cur[ν]? = some x → x.st ≠ 0) ∧ Below W.heap.size W wr
set_option maxHeartbeats 4000000 in
set_option maxRecDepth 100000 in
theorem once_any (n : Int) (B : Option Addr) (m d : Nat) (acts : List Ac) (node : Int) (W : World) (g : Acs W B m acts) (hm : m ≤ maxLen) :
    Calls Try.prog 6 #[.int .i64 n, .slice B m d, .int .i64 node] W (TrueB W) := by
  have hil := g.len
  subst hil
  unfold maxLen at hm
  have HAw := Lib.hid fawake_any
  have HNw := Lib.hid (new_any n W)
  by_cases hn : n < 1 ∨ 48 < n
  · have HP : Hid (newT n = ([], 2)) := by show _ = _; rw [newT, if_pos hn]
    rw [HP.out] at HNw
    clear hn g
    go_enter Try.func6, Try.ntmps6
    go_wp2_with fail
    refine HNw.out.mono ?_
    rintro e w1 ⟨A1, c1, rfl, o1, b1⟩
    go_wp2_with fail
    refine (HAw.out w1).mono ?_
    rintro e w2 ⟨rfl, b2⟩
    go_wp2_with fail
    go_ret
    exact ⟨rfl, below_step b1 b2⟩
  obtain ⟨N, rfl⟩ : ∃ N : Nat, n = (N : Int) := ⟨n.toNat, by omega⟩
  have hN1 : 1 ≤ N := by omega
  have hN2 : N ≤ 48 := by omega
  have HP : Hid (newT (N : Int) = (List.replicate N Nd0, 0)) := by show _ = _; rw [newT, if_neg hn, Int.toNat_natCast]
  rw [HP.out] at HNw
  clear hn
  by_cases h1 : 300 < acts.length
  · have h1' : (300 : Int) < (acts.length : Int) := by omega
    clear g
    go_enter Try.func6, Try.ntmps6
    go_wp2_with fail
    refine HNw.out.mono ?_
    rintro e w1 ⟨A1, c1, rfl, o1, b1⟩
    go_wp2_with fail
    refine (HAw.out w1).mono ?_
    rintro e w2 ⟨rfl, b2⟩
    go_wp2_with fail
    go_ret
    exact ⟨rfl, below_step b1 b2⟩
  have h1' : acts.length ≤ 300 := by omega
  by_cases h2 : node < 0
  · clear g h1
    go_enter Try.func6, Try.ntmps6
    go_wp2_with fail
    refine HNw.out.mono ?_
    rintro e w1 ⟨A1, c1, rfl, o1, b1⟩
    go_wp2_with fail
    refine (HAw.out w1).mono ?_
    rintro e w2 ⟨rfl, b2⟩
    go_wp2_with fail
    go_ret
    exact ⟨rfl, below_step b1 b2⟩
  by_cases h3 : (N : Int) ≤ node
  · have h2' : 0 ≤ node := by omega
    clear g h1 h2
    go_enter Try.func6, Try.ntmps6
    go_wp2_with fail
    refine HNw.out.mono ?_
    rintro e w1 ⟨A1, c1, rfl, o1, b1⟩
    go_wp2_with fail
    refine (HAw.out w1).mono ?_
    rintro e w2 ⟨rfl, b2⟩
    go_wp2_with fail
    go_ret
    exact ⟨rfl, below_step b1 b2⟩
  obtain ⟨ν, rfl⟩ : ∃ ν : Nat, node = (ν : Int) := ⟨node.toNat, by omega⟩
  have hν : ν < N := by omega
  have hν2 : decide (N ≤ ν) = false := by simp; omega
  have hν3 : ¬ N ≤ ν := by omega
  have h1d : decide ((300 : Int) < (acts.length : Int)) = false := by simp; omega
  have h1i : ¬ ((300 : Int) < (acts.length : Int)) := by omega
  have h2d : decide ((ν : Int) < 0) = false := by simp
  have h2i : ¬ ((ν : Int) < 0) := by omega
  have HG := Lib.hid g
  clear h1 h2 h3 g
  go_enter Try.func6, Try.ntmps6
  go_wp2_with fail
  refine HNw.out.mono ?_
  rintro e w1 ⟨A1, c1, rfl, o1, b1⟩
  have HO := Lib.hid o1
  clear o1
  go_wp2_with fail
  go_loopw [7, 9, 10] (fun X G Y wr => OnceRel W N ν acts.length X G Y wr) (fun _ _ Y _ => acts.length - (intOf Y).toNat)
  case atStart => exact ⟨0, A1, c1, List.replicate N Nd0, false, by omega, by rw [List.length_replicate], rfl, rfl, HO.out.lst layN, HO.out.2.bare, by simp, by simp, b1⟩
  case round =>
    obtain ⟨k, A2, c2, cur, gr, hk, rfl, rfl, rfl, hcur, hA2, hcl, hg, hbel⟩ := hrel
    have HCur := Lib.hid hcur
    have HA2 := Lib.hid hA2
    have HCl := Lib.hid hcl
    have HGr := Lib.hid hg
    have hc48 : cur.length ≤ 48 := by omega
    clear hcur hA2 hcl hg
    by_cases hlt : k < acts.length
    · obtain ⟨b, off, a, rfl, hb, ha, d0, d1, d2, d3⟩ := Lst.act (HG.out.below hbel) hlt
      clear ha
      obtain ⟨V, hV⟩ : ∃ V, V = wr.alloc (.cells #[.int .i64 a.nd, .int .i64 a.ac, .int .i64 a.jb, .int .i64 a.nw] 42) := ⟨_, rfl⟩
      have bV : Below wr.heap.size wr V := by rw [hV]; exact (Below.refl _ _).alloc (Nat.le_refl _) _
      have kV : Blk V wr.heap.size 42 #[.int .i64 a.nd, .int .i64 a.ac, .int .i64 a.jb, .int .i64 a.nw] := by rw [hV]; exact Blk.new _ _ _
      have HDo := Lib.hid (do_any A2 cur.length c2 cur a.nd a.ac a.jb a.nw V (HCur.out.below bV) (by simp only [maxLen]; omega) HA2.out)
      have HOk := Lib.hid (doT_ok (l := cur) (n := a.nd) (act := a.ac) (job := a.jb) (now := a.nw))
      obtain ⟨r, hr⟩ : ∃ r, r = doT cur a.nd a.ac a.jb a.nw := ⟨_, rfl⟩
      rw [← hr] at HDo HOk
      clear hr
      go_wp2_with fail
      rw [← hV]
      clear hV d0 d1 d2 d3
      refine HDo.out.mono ?_
      rintro e w3 ⟨A3, c3, rfl, o3, d3⟩
      have b0V := below_step hbel bV
      have b03 := below_step b0V d3
      have bV3 := below_step bV d3
      by_cases he : r.2 = 0
      case neg =>
        have e1 : (r.2 != 0) = true := by simpa using he
        clear he o3
        go_wp2_with fail
        exact ⟨⟨k + 1, A2, c2, cur, gr, by omega, rfl, rfl, by go_num, HCur.out.below bV3, HA2.out, HCl.out, HGr.out, b03⟩, by simp [intOf]; omega⟩
      have e1 : (r.2 != 0) = false := by simp [he]
      obtain ⟨i, x, hnd, hx, _, _, hmay, hr1⟩ := HOk.out he
      have hrl : r.1.length = cur.length := by rw [hr1]; simp
      have HR1 := Lib.hid hr1
      have HRl := Lib.hid hrl
      have HMay := Lib.hid hmay
      have HXi := Lib.hid hx
      have hil := (List.getElem?_eq_some_iff.1 hx).1
      have k3 := kV.below d3 kV.lt
      obtain ⟨y0, y1, y2, y3⟩ := blk4 k3
      have HO3 := Lib.hid o3
      have HNd := Lib.hid hnd
      rw [hnd] at y0
      clear he o3 hr1 hrl hmay hx k3 hnd HOk
      by_cases hiν : i = ν
      case neg =>
        have e2 : ((i : Int) != (ν : Int)) = true := by rw [bne_iff_ne]; omega
        have e2' : (i != ν) = true := by rw [bne_iff_ne]; exact hiν
        have HGn : Hid (gr = true → ∀ x, r.1[ν]? = some x → x.st ≠ 0) := by
          show _ → _
          intro hgt z hz
          rw [HR1.out, List.getElem?_set_ne hiν] at hz
          exact HGr.out hgt z hz
        clear hiν
        go_wp2_with fail
        exact ⟨⟨k + 1, A3, c3, r.1, gr, by omega, rfl, rfl, by go_num, HO3.out.lst layN, HO3.out.2.bare, by rw [HRl.out]; exact HCl.out, HGn.out, b03⟩, by simp [intOf]; omega⟩
      subst hiν
      have e2 : ((i : Int) != (i : Int)) = false := by simp
      have e2' : (i != i) = false := by simp
      have HNew : Hid (∀ x', r.1[i]? = some x' → x' = doneN x a.ac a.jb a.nw) := by
        show ∀ x', _
        intro x' hx'
        rw [HR1.out, List.getElem?_set_self hil] at hx'
        injection hx' with hx'
        exact hx'.symm
      obtain ⟨aac, haac⟩ : ∃ aac, aac = a.ac := ⟨_, rfl⟩
      rw [← haac] at HMay HNew y1
      clear haac HR1 HNd
      by_cases ha12 : aac = 1 ∨ aac = 2
      · have hgf : gr = false := by
          cases hgr : gr
          · rfl
          · exact absurd (once_may HMay.out ha12) (HGr.out hgr x HXi.out)
        subst hgf
        have HGn : Hid (true = true → ∀ x', r.1[i]? = some x' → x'.st ≠ 0) := by
          show _ → _
          intro _ x' hx'
          rw [HNew.out x' hx']
          exact once_new ha12
        have HF : Hid (∃ q : Unit, OnceRel W N i acts.length (.slice A3 r.1.length c3) (.bool true) (.int .i64 ((k : Int) + 1)) w3) := ⟨(), k + 1, A3, c3, r.1, true, by omega, rfl, rfl, by go_num, HO3.out.lst layN, HO3.out.2.bare, by rw [HRl.out]; exact HCl.out, HGn.out, b03⟩
        rcases ha12 with rfl | rfl
        · go_wp2_with fail
          exact ⟨HF.out.choose_spec, by simp [intOf]; omega⟩
        · go_wp2_with fail
          exact ⟨HF.out.choose_spec, by simp [intOf]; omega⟩
      have a1 : (aac == 1) = false := by simp; omega
      have a2 : (aac == 2) = false := by simp; omega
      by_cases ha8 : aac = 8
      · subst ha8
        clear ha12
        have HF : Hid (∃ q : Unit, OnceRel W N i acts.length (.slice A3 r.1.length c3) (.bool false) (.int .i64 ((k : Int) + 1)) w3) := ⟨(), k + 1, A3, c3, r.1, false, by omega, rfl, rfl, by go_num, HO3.out.lst layN, HO3.out.2.bare, by rw [HRl.out]; exact HCl.out, by simp, b03⟩
        go_wp2_with fail
        exact ⟨HF.out.choose_spec, by simp [intOf]; omega⟩
      by_cases ha11 : aac = 11
      · subst ha11
        clear ha12 ha8
        have HF : Hid (∃ q : Unit, OnceRel W N i acts.length (.slice A3 r.1.length c3) (.bool false) (.int .i64 ((k : Int) + 1)) w3) := ⟨(), k + 1, A3, c3, r.1, false, by omega, rfl, rfl, by go_num, HO3.out.lst layN, HO3.out.2.bare, by rw [HRl.out]; exact HCl.out, by simp, b03⟩
        go_wp2_with fail
        exact ⟨HF.out.choose_spec, by simp [intOf]; omega⟩
      have a8 : (aac == 8) = false := by simpa using ha8
      have a11 : (aac == 11) = false := by simpa using ha11
      have HGn : Hid (gr = true → ∀ x', r.1[i]? = some x' → x'.st ≠ 0) := by
        show _ → _
        intro hgt x' hx'
        rw [HNew.out x' hx']
        exact once_step HMay.out ha8 ha11 (HGr.out hgt x HXi.out)
      clear ha12 ha8 ha11
      go_wp2_with fail
      exact ⟨⟨k + 1, A3, c3, r.1, gr, by omega, rfl, rfl, by go_num, HO3.out.lst layN, HO3.out.2.bare, by rw [HRl.out]; exact HCl.out, HGn.out, b03⟩, by simp [intOf]; omega⟩
    · go_wp2_with fail
      refine (HAw.out wr).mono ?_
      rintro e w2 ⟨rfl, b2⟩
      go_wp2_with fail
      go_ret
      exact ⟨rfl, below_step hbel b2⟩
end Go.Proofs.Ytdamocjbkdknaaa.FleetW
