/-
  Contracts at nodes: slices.IndexFunc, slices.ContainsFunc (a closure that captures nothing), slices.Clone; muster/fleet's Check.
-/
import Derived.Test.YtdamocjbkdknaaaFleetFine
namespace Go.Proofs.Ytdamocjbkdknaaa.FleetW
open Go.RowKit Mem Fleet
set_option linter.unusedVariables false
set_option linter.unusedSimpArgs false
set_option linter.unnecessarySimpa false

/-- a closure that captures nothing tells q -/
def Tells (g : FuncId) (q : Nd → Bool) : Prop := ∀ (x : Nd) (W : World), Calls Try.prog g #[.agg #[.int .i64 x.st, .int .i64 x.jb, .int .i64 x.ep, .bool x.dr, .int .i64 x.wt, .int .i64 x.si, .int .i64 x.ak]] W (Ret (.bool (q x)) W)
def idxT (q : Nd → Bool) (l : List Nd) : Int := if l.any q then (l.findIdx q : Int) else -1
theorem idx_none {q : Nd → Bool} {l : List Nd} (h : ∀ x ∈ l, q x = false) : idxT q l = -1 := by
  have : l.any q = false := by rw [List.any_eq_false]; intro x hx; rw [h x hx]; simp
  simp [idxT, this]
theorem idx_at {q : Nd → Bool} {l : List Nd} {k : Nat} {s : Nd} (h : ∀ x ∈ l.take k, q x = false) (hs : l[k]? = some s) (hq : q s = true) : idxT q l = (k : Int) := by
  obtain ⟨hk, rfl⟩ := List.getElem?_eq_some_iff.1 hs
  have ha : l.any q = true := List.any_eq_true.2 ⟨_, List.getElem_mem hk, hq⟩
  have : l.findIdx q = k := by
    rw [List.findIdx_eq hk]
    refine ⟨hq, fun j hj => ?_⟩
    have := h l[j] (by rw [List.mem_take_iff_getElem]; exact ⟨j, by omega, rfl⟩)
    exact this
  simp [idxT, ha, this]
theorem idxT_ge (q : Nd → Bool) (l : List Nd) : decide (0 ≤ idxT q l) = l.any q := by
  unfold idxT
  cases l.any q <;> simp
def IdxRel (w : World) (q : Nd → Bool) (l : List Nd) (i : Value) (wr : World) : Prop := ∃ k : Nat, k ≤ l.length ∧ i = .int .i64 k ∧ (∀ x ∈ l.take k, q x = false) ∧ Below w.heap.size w wr
set_option maxHeartbeats 1000000 in
theorem index_any (g : FuncId) (q : Nd → Bool) (eg : ∀ args w, (callFunc g args).run Try.prog w = .ok (.enter g args) w) (hc : Tells g q)
    (A : Option Addr) (n c : Nat) (l : List Nd) (w : World) (h : Nds w A n l) (hn : n ≤ maxLen) :
    Calls Try.prog 68 #[.slice A n c, .func (.func g) #[] #[]] w (Ret (.int .i64 (idxT q l)) w) := by
  unfold maxLen at hn
  have hlen := h.len
  subst hlen
  have HH := Lib.hid h
  have HC := Lib.hid hc
  clear h hc
  go_enter Try.func68, Try.ntmps68
  go_wp2_with fail
  go_loopw [8] (fun i wr => IdxRel w q l i wr) (fun i _ => l.length - (intOf i).toNat)
  case atStart => exact ⟨0, by omega, rfl, by simp, Below.refl _ _⟩
  case round =>
    obtain ⟨k, hk, rfl, hall, hbel⟩ := hrel
    have HAll := Lib.hid hall
    clear hall
    by_cases hlt : k < l.length
    · obtain ⟨b, off, s, rfl, hb, hs, d0, d1, d2, d3, d4, d5, d6⟩ := Lst.seven (HH.out.below hbel) hlt
      have HS := Lib.hid hs
      have HCall := Lib.hid (HC.out s wr)
      clear hs
      cases hq : q s
      · rw [hq] at HCall
        have HN := Lib.hid (take_all (P := fun x => q x = false) HAll.out HS.out hq)
        clear hq
        go_wp2_with fail
        refine HCall.out.mono ?_
        rintro e w2 ⟨rfl, b2⟩
        go_wp2_with fail
        exact ⟨⟨k + 1, by omega, by go_num, HN.out, below_step hbel b2⟩, by simp [intOf]; omega⟩
      · rw [hq] at HCall
        have HI := Lib.hid (idx_at HAll.out HS.out hq)
        clear hq
        go_wp2_with fail
        refine HCall.out.mono ?_
        rintro e w2 ⟨rfl, b2⟩
        go_wp2_with fail
        go_ret
        exact ⟨ret_int HI.out.symm, below_step hbel b2⟩
    · obtain rfl : k = l.length := by omega
      have HI := Lib.hid (idx_none (q := q) (l := l) (by have := HAll.out; rwa [List.take_length] at this))
      go_wp2_with fail
      go_ret
      exact ⟨ret_int HI.out.symm, hbel⟩
theorem contf_any (g : FuncId) (q : Nd → Bool) (eg : ∀ args w, (callFunc g args).run Try.prog w = .ok (.enter g args) w) (hc : Tells g q)
    (A : Option Addr) (n c : Nat) (l : List Nd) (w : World) (h : Nds w A n l) (hn : n ≤ maxLen) :
    Calls Try.prog 45 #[.slice A n c, .func (.func g) #[] #[]] w (Ret (.bool (l.any q)) w) := by
  have HI := Lib.hid (index_any g q eg hc A n c l w h hn)
  have HG := Lib.hid (idxT_ge q l)
  obtain ⟨i, hi⟩ : ∃ i, i = idxT q l := ⟨_, rfl⟩
  rw [← hi] at HI HG
  clear h hi hc eg
  go_enter Try.func45, Try.ntmps45
  go_wp2_with fail
  refine HI.out.mono ?_
  rintro e w' ⟨rfl, b1⟩
  go_wp2_with fail
  go_ret
  exact ⟨ret_bool HG.out, b1⟩
theorem check1_any : Tells 46 (fun x => !fineN x) := by
  intro x W
  have HF := Lib.hid (fine_any x)
  go_enter Try.func46, Try.ntmps46
  go_wp2_with fail
  refine (HF.out _).mono ?_
  rintro e w1 ⟨rfl, b1⟩
  go_wp2_with fail
  go_ret
  exact ⟨rfl, below_step ((Below.refl _ _).alloc (Nat.le_refl _) _) b1⟩
theorem check1_eg : ∀ args w, (callFunc 46 args).run Try.prog w = .ok (.enter 46 args) w := enters_of Try.func46 (by kernel_rfl) rfl
set_option maxHeartbeats 1000000 in
theorem check_any (A : Option Addr) (n c : Nat) (l : List Nd) (w : World) (h : Nds w A n l) (hn : n ≤ maxLen) :
    Calls Try.prog 19 #[.slice A n c] w (Ret (.int .i64 (chkE l)) w) := by
  have hn' := hn
  unfold maxLen at hn'
  have hlen := h.len
  subst hlen
  by_cases h1 : l.length < 1
  · have HC := Lib.hid (chkE_no (chk_short h1))
    clear h
    go_enter Try.func19, Try.ntmps19
    go_wp2_with fail
    go_ret
    exact ⟨ret_int HC.out.symm, Below.refl _ _⟩
  have h1' : 1 ≤ l.length := by omega
  by_cases h2 : 48 < l.length
  · have HC := Lib.hid (chkE_no (chk_long h2))
    clear h h1
    go_enter Try.func19, Try.ntmps19
    go_wp2_with fail
    go_ret
    exact ⟨ret_int HC.out.symm, Below.refl _ _⟩
  have h2' : l.length ≤ 48 := by omega
  have HCf := Lib.hid (contf_any _ _ check1_eg check1_any A l.length c l w h hn)
  have HA := Lib.hid (chk_any h1' h2')
  clear h h1 h2
  cases hy : l.any (fun x => !fineN x)
  · rw [hy] at HCf HA
    have HC := Lib.hid (chkE_yes HA.out)
    clear hy HA
    go_enter Try.func19, Try.ntmps19
    go_wp2_with fail
    refine HCf.out.mono ?_
    rintro e w1 ⟨rfl, b1⟩
    go_wp2_with fail
    go_ret
    exact ⟨ret_int HC.out.symm, b1⟩
  · rw [hy] at HCf HA
    have HC := Lib.hid (chkE_no HA.out)
    clear hy HA
    go_enter Try.func19, Try.ntmps19
    go_wp2_with fail
    refine HCf.out.mono ?_
    rintro e w1 ⟨rfl, b1⟩
    go_wp2_with fail
    go_ret
    exact ⟨ret_int HC.out.symm, b1⟩
theorem check_is (r : Int) (A : Option Addr) (n c : Nat) (l : List Nd) (w : World) (h : Nds w A n l) (hn : n ≤ maxLen) (hr : chkE l = r) :
    Calls Try.prog 19 #[.slice A n c] w (Ret (.int .i64 r) w) := by rw [← hr]; exact check_any A n c l w h hn
theorem nodeInfo : (Try.prog.info? 48).map (fun i => (i.zero, i.size, i.bytes)) = some (some (.agg #[.int .i64 0, .int .i64 0, .int .i64 0, .bool false, .int .i64 0, .int .i64 0, .int .i64 0]), 7, 56) := by kernel_rfl
/-- a slice of nodes, made new -/
def NewN (l : List Nd) (w : World) (e : Ending) (w' : World) : Prop := ∃ A c, e = .returned (.slice A l.length c) ∧ NdsO w' w.heap.size A l.length c l ∧ Below w.heap.size w w'
set_option maxHeartbeats 1000000 in
theorem nclone_any (A : Option Addr) (n c : Nat) (p : List Nd) (w : World) (h : Nds w A n p) (hn : n ≤ 1000000) (hA : A = none → c = 0) :
    Calls Try.prog 56 #[.slice A n c] w (NewN p w) := by
  have hl := h.len
  subst hl
  cases A with
  | none =>
    have hp : p = [] := by
      cases p with
      | nil => rfl
      | cons x r => obtain ⟨b, off, _, e, _⟩ := h.at_ (i := 0) (by simp); cases e
    subst hp
    obtain rfl := hA rfl
    clear h hA hn
    have hnil := fun (w : World) => Lib.run_eql_slice_nil (P := Try.prog) w 22 48 none 0 0 0 0 Try.underlying22
    go_enter Try.func56, Try.ntmps56
    go_wp2_with fail
    go_ret
    exact ⟨none, 0, rfl, SOwn.nil _ _ _ _, Below.refl _ _⟩
  | some a =>
    obtain ⟨A', c', W', hrun, hown, hb, _, _⟩ := app_s layN (P := Try.prog) (w.alloc (.cells #[] 48)) w.heap.size 22 22 48 _ 56 Try.underlying22 nodeInfo rfl (some ⟨w.heap.size, 0, none⟩) 0 0 [] (SOwn.none _ _ _ _ _) (some a) p.length c p (h.below ((Below.refl _ _).alloc (Nat.le_refl _) _)) (by simp [maxLen]; omega) (by omega) (by simp)
    simp only [Nat.zero_add, List.nil_append] at hrun hown
    have HR := Lib.hid hrun
    have hb2 := ((Below.refl w.heap.size w).alloc (Nat.le_refl _) (.cells #[] 48)).trans hb
    clear hrun hb h
    have hnil := fun (w : World) => Lib.run_eql_slice_nil (P := Try.prog) w 22 48 (some a) p.length c 0 0 Try.underlying22
    simp only [Option.isNone_some] at hnil
    go_enter Try.func56, Try.ntmps56
    go_wp2_with (at_builtin; refine wpList_app2 rfl _ _ rfl rfl rfl HR.out ?_)
    go_ret
    exact ⟨A', c', rfl, hown, hb2⟩
end Go.Proofs.Ytdamocjbkdknaaa.FleetW
