/-
  Contracts at reservations: slices.IndexFunc, slices.DeleteFunc (a closure with one captured variable), slices.Clone, slices.Equal; book.without.
-/
import Derived.Test.YthfnmighhoighaaBookBase
import Derived.Test.YthfnmighhoighaaSlices3
namespace Go.Proofs.Ythfnmighhoighaa.BookW
open Go.RowKit Mem Prof Book ProfW
set_option linter.unusedVariables false

/-- a closure with one captured variable tells q, in every world in which what lay below base lies as it lay -/
def Tells (g : FuncId) (B : Addr) (q : Bk → Bool) (base : Nat) (W0 : World) : Prop := ∀ (x : Bk) (W : World), Below base W0 W → Calls Try.prog g #[.agg #[.int .i64 x.id, .int .i64 x.fr, .int .i64 x.to, .int .i64 x.nd], .pointer (some B)] W (Ret (.bool (q x)) W)
def idxT (q : Bk → Bool) (l : List Bk) : Int := if l.any q then (l.findIdx q : Int) else -1
theorem idx_none {q : Bk → Bool} {l : List Bk} (h : ∀ x ∈ l, q x = false) : idxT q l = -1 := by
  have : l.any q = false := by rw [List.any_eq_false]; intro x hx; rw [h x hx]; simp
  simp [idxT, this]
theorem idx_at {q : Bk → Bool} {l : List Bk} {k : Nat} {s : Bk} (h : ∀ x ∈ l.take k, q x = false) (hs : l[k]? = some s) (hq : q s = true) : idxT q l = (k : Int) := by
  obtain ⟨hk, rfl⟩ := List.getElem?_eq_some_iff.1 hs
  have ha : l.any q = true := List.any_eq_true.2 ⟨_, List.getElem_mem hk, hq⟩
  have : l.findIdx q = k := by
    rw [List.findIdx_eq hk]
    refine ⟨hq, fun j hj => ?_⟩
    have := h l[j] (by rw [List.mem_take_iff_getElem]; exact ⟨j, by omega, rfl⟩)
    exact this
  simp [idxT, ha, this]
def IdxRel (w : World) (q : Bk → Bool) (l : List Bk) (i : Value) (wr : World) : Prop := ∃ k : Nat, k ≤ l.length ∧ i = .int .i64 k ∧ (∀ x ∈ l.take k, q x = false) ∧ Below w.heap.size w wr
set_option maxHeartbeats 1000000 in
theorem index_any (g : FuncId) (B : Addr) (q : Bk → Bool) (base : Nat) (W0 : World) (eg : ∀ args w, (callFunc g args).run Try.prog w = .ok (.enter g args) w) (hc : Tells g B q base W0) (hbase : base ≤ W0.heap.size)
    (A : Option Addr) (n c : Nat) (l : List Bk) (w : World) (hw : Below base W0 w) (h : Bks w A n l) (hn : n ≤ maxLen) :
    Calls Try.prog 77 #[.slice A n c, .func (.func g) #[] #[.pointer (some B)]] w (Ret (.int .i64 (idxT q l)) w) := by
  unfold maxLen at hn
  have hlen := h.len
  subst hlen
  have HH := Lib.hid h
  have HC := Lib.hid hc
  clear h hc
  go_enter Try.func77, Try.ntmps77
  go_wp2_with fail
  go_loopw [8] (fun i wr => IdxRel w q l i wr) (fun i _ => l.length - (intOf i).toNat)
  case atStart => exact ⟨0, by omega, rfl, by simp, Below.refl _ _⟩
  case round =>
    obtain ⟨k, hk, rfl, hall, hbel⟩ := hrel
    have HAll := Lib.hid hall
    clear hall
    by_cases hlt : k < l.length
    · obtain ⟨b, off, s, rfl, hb, hs, d0, d1, d2, d3⟩ := Lst.four (HH.out.below hbel) hlt
      have HS := Lib.hid hs
      have HCall := Lib.hid (HC.out s wr (hw.trans (hbel.mono (Nat.le_trans hbase hw.size))))
      clear hs
      cases hq : q s
      · rw [hq] at HCall
        have HN := Lib.hid (take_all (P := fun x => q x = false) HAll.out HS.out hq)
        clear hq
        go_wp2_with fail
        refine HCall.out.mono ?_
        rintro e w2 ⟨rfl, b2⟩
        go_wp2_with fail
        exact ⟨⟨k + 1, by omega, by go_num, HN.out, below_step hbel b2⟩, by simp [intOf]; omega⟩
      · rw [hq] at HCall
        have HI := Lib.hid (idx_at HAll.out HS.out hq)
        clear hq
        go_wp2_with fail
        refine HCall.out.mono ?_
        rintro e w2 ⟨rfl, b2⟩
        go_wp2_with fail
        go_ret
        exact ⟨ret_int HI.out.symm, below_step hbel b2⟩
    · obtain rfl : k = l.length := by omega
      have HI := Lib.hid (idx_none (q := q) (l := l) (by have := HAll.out; rwa [List.take_length] at this))
      go_wp2_with fail
      go_ret
      exact ⟨ret_int HI.out.symm, hbel⟩

theorem bookInfo : (Try.prog.info? 42).map (fun i => (i.zero, i.size, i.bytes)) = some (some (.agg #[.int .i64 0, .int .i64 0, .int .i64 0, .int .i64 0]), 4, 32) := by kernel_rfl
/-- a slice of reservations, made new -/
def NewB (l : List Bk) (w : World) (e : Ending) (w' : World) : Prop := ∃ A c, e = .returned (.slice A l.length c) ∧ BksO w' w.heap.size A l.length c l ∧ Below w.heap.size w w'
set_option maxHeartbeats 1000000 in
theorem bclone_any (A : Option Addr) (n c : Nat) (p : List Bk) (w : World) (h : Bks w A n p) (hn : n ≤ 1000000) (hA : A = none → c = 0) :
    Calls Try.prog 54 #[.slice A n c] w (NewB p w) := by
  have hl := h.len
  subst hl
  cases A with
  | none =>
    have hp : p = [] := by
      cases p with
      | nil => rfl
      | cons x r => obtain ⟨b, off, _, e, _⟩ := h.at_ (i := 0) (by simp); cases e
    subst hp
    obtain rfl := hA rfl
    clear h hA hn
    have hnil := fun (w : World) => Lib.run_eql_slice_nil (P := Try.prog) w 40 42 none 0 0 0 0 Try.underlying40
    go_enter Try.func54, Try.ntmps54
    go_wp2_with fail
    go_ret
    exact ⟨none, 0, rfl, SOwn.nil _ _ _ _, Below.refl _ _⟩
  | some a =>
    obtain ⟨A', c', W', hrun, hown, hb, _, _⟩ := app_s layB (P := Try.prog) (w.alloc (.cells #[] 42)) w.heap.size 40 40 42 _ 32 Try.underlying40 bookInfo rfl (some ⟨w.heap.size, 0, none⟩) 0 0 [] (SOwn.none _ _ _ _ _) (some a) p.length c p (h.below ((Below.refl _ _).alloc (Nat.le_refl _) _)) (by simp [maxLen]; omega) (by omega) (by simp)
    simp only [Nat.zero_add, List.nil_append] at hrun hown
    have HR := Lib.hid hrun
    have hb2 := ((Below.refl w.heap.size w).alloc (Nat.le_refl _) (.cells #[] 42)).trans hb
    clear hrun hb h
    have hnil := fun (w : World) => Lib.run_eql_slice_nil (P := Try.prog) w 40 42 (some a) p.length c 0 0 Try.underlying40
    simp only [Option.isNone_some] at hnil
    go_enter Try.func54, Try.ntmps54
    go_wp2_with (at_builtin; refine wpList_app2 rfl _ _ rfl rfl rfl HR.out ?_)
    go_ret
    exact ⟨A', c', rfl, hown, hb2⟩
end Go.Proofs.Ythfnmighhoighaa.BookW
