/-
  Contracts at alternatives: slices.IndexFunc, slices.ContainsFunc, slices.Clone, slices.Equal; shape.fine, apart, Check.
-/
import Derived.Test.YthfnmighhoighaaRows
import Derived.Test.YthfnmighhoighaaShapePlain
import Derived.Test.YthfnmighhoighaaWord
import Derived.RegionTactic
import Derived.Outline
namespace Go.Proofs.Ythfnmighhoighaa.ShapeW
open Go.RowKit Mem Shape
set_option linter.unusedVariables false
set_option linter.unusedSimpArgs false
set_option linter.unnecessarySimpa false

def alRow (x : Al) : List Value := [.int .i64 x.nd, .int .i64 x.wl]
abbrev Als := Lst alRow 2
abbrev AlsO := SOwn alRow 2
theorem layA : Lay alRow 2 := ⟨fun _ => rfl, fun x u hu => by simp [alRow] at hu; rcases hu with rfl | rfl <;> rfl, by omega⟩
theorem Lst.alt {w : World} {A : Option Addr} {n : Nat} {l : List Al} (h : Als w A n l) {i : Nat} (hi : i < n) : ∃ b off s, A = some ⟨b, off, none⟩ ∧ b < w.heap.size ∧ l[i]? = some s ∧ w.cell? ⟨b, off + i * 2, none⟩ = some (.int .i64 s.nd) ∧ w.cell? ⟨b, off + i * 2 + 1, none⟩ = some (.int .i64 s.wl) := by
  obtain ⟨b, off, s, hA, hb, hs, hc⟩ := h.at_ hi
  exact ⟨b, off, s, hA, hb, hs, hc 0 _ rfl, hc 1 _ rfl⟩
theorem altInfo : (Try.prog.info? 38).map (fun i => (i.zero, i.size, i.bytes)) = some (some (.agg #[.int .i64 0, .int .i64 0]), 2, 16) := by kernel_rfl
theorem al_ext {x y : Al} (h0 : x.nd = y.nd) (h1 : x.wl = y.wl) : x = y := by
  cases x; cases y; simp_all
def idxT (q : Al → Bool) (l : List Al) : Int := if l.any q then (l.findIdx q : Int) else -1
theorem idx_none {q : Al → Bool} {l : List Al} (h : ∀ x ∈ l, q x = false) : idxT q l = -1 := by
  have : l.any q = false := by rw [List.any_eq_false]; intro x hx; rw [h x hx]; simp
  simp [idxT, this]
theorem idx_at {q : Al → Bool} {l : List Al} {k : Nat} {s : Al} (h : ∀ x ∈ l.take k, q x = false) (hs : l[k]? = some s) (hq : q s = true) : idxT q l = (k : Int) := by
  obtain ⟨hk, rfl⟩ := List.getElem?_eq_some_iff.1 hs
  have ha : l.any q = true := List.any_eq_true.2 ⟨_, List.getElem_mem hk, hq⟩
  have : l.findIdx q = k := by
    rw [List.findIdx_eq hk]
    refine ⟨hq, fun j hj => ?_⟩
    have := h l[j] (by rw [List.mem_take_iff_getElem]; exact ⟨j, by omega, rfl⟩)
    exact this
  simp [idxT, ha, this]
theorem idxT_ge (q : Al → Bool) (l : List Al) : decide (0 ≤ idxT q l) = l.any q := by
  unfold idxT
  cases l.any q <;> simp
def IdxRel (w : World) (q : Al → Bool) (l : List Al) (i : Value) (wr : World) : Prop := ∃ k : Nat, k ≤ l.length ∧ i = .int .i64 k ∧ (∀ x ∈ l.take k, q x = false) ∧ Below w.heap.size w wr
def Tells0 (g : FuncId) (B : Addr) (q : Al → Bool) (W0 : World) : Prop := ∀ (x : Al) (W : World), Below W0.heap.size W0 W → Calls Try.prog g #[.agg #[.int .i64 x.nd, .int .i64 x.wl]] W (Ret (.bool (q x)) W)
set_option maxHeartbeats 1000000 in
theorem index0_any (g : FuncId) (B : Addr) (q : Al → Bool) (eg : ∀ args w, (callFunc g args).run Try.prog w = .ok (.enter g args) w) (A : Option Addr) (n c : Nat) (l : List Al) (w : World) (hc : Tells0 g B q w) (h : Als w A n l) (hn : n ≤ maxLen) :
    Calls Try.prog 68 #[.slice A n c, .func (.func g) #[] #[]] w (Ret (.int .i64 (idxT q l)) w) := by
  unfold maxLen at hn
  have hlen := h.len
  subst hlen
  have HH := Lib.hid h
  have HC := Lib.hid hc
  clear h hc
  go_enter Try.func68, Try.ntmps68
  go_wp2_with fail
  go_loopw [8] (fun i wr => IdxRel w q l i wr) (fun i _ => l.length - (intOf i).toNat)
  case atStart => exact ⟨0, by omega, rfl, by simp, Below.refl _ _⟩
  case round =>
    obtain ⟨k, hk, rfl, hall, hbel⟩ := hrel
    have HAll := Lib.hid hall
    clear hall
    by_cases hlt : k < l.length
    · obtain ⟨b, off, s, rfl, hb, hs, d0, d1⟩ := Lst.alt (HH.out.below hbel) hlt
      have HS := Lib.hid hs
      have HCall := Lib.hid (HC.out s wr hbel)
      clear hs
      cases hq : q s
      · rw [hq] at HCall
        have HN := Lib.hid (take_all (P := fun x => q x = false) HAll.out HS.out hq)
        clear hq
        go_wp2_with fail
        refine HCall.out.mono ?_
        rintro e w2 ⟨rfl, b2⟩
        go_wp2_with fail
        exact ⟨⟨k + 1, by omega, by go_num, HN.out, below_step hbel b2⟩, by simp [intOf]; omega⟩
      · rw [hq] at HCall
        have HI := Lib.hid (idx_at HAll.out HS.out hq)
        clear hq
        go_wp2_with fail
        refine HCall.out.mono ?_
        rintro e w2 ⟨rfl, b2⟩
        go_wp2_with fail
        go_ret
        exact ⟨ret_int HI.out.symm, below_step hbel b2⟩
    · obtain rfl : k = l.length := by omega
      have HI := Lib.hid (idx_none (q := q) (l := l) (by have := HAll.out; rwa [List.take_length] at this))
      go_wp2_with fail
      go_ret
      exact ⟨ret_int HI.out.symm, hbel⟩
theorem contf0_any (g : FuncId) (B : Addr) (q : Al → Bool) (eg : ∀ args w, (callFunc g args).run Try.prog w = .ok (.enter g args) w) (A : Option Addr) (n c : Nat) (l : List Al) (w : World) (hc : Tells0 g B q w) (h : Als w A n l) (hn : n ≤ maxLen) :
    Calls Try.prog 47 #[.slice A n c, .func (.func g) #[] #[]] w (Ret (.bool (l.any q)) w) := by
  have HI := Lib.hid (index0_any g B q eg A n c l w hc h hn)
  have HG := Lib.hid (idxT_ge q l)
  obtain ⟨i, hi⟩ : ∃ i, i = idxT q l := ⟨_, rfl⟩
  rw [← hi] at HI HG
  clear h hi hc eg
  go_enter Try.func47, Try.ntmps47
  go_wp2_with fail
  refine HI.out.mono ?_
  rintro e w' ⟨rfl, b1⟩
  go_wp2_with fail
  go_ret
  exact ⟨ret_bool HG.out, b1⟩
def Tells1 (g : FuncId) (B : Addr) (q : Al → Bool) (W0 : World) : Prop := ∀ (x : Al) (W : World), Below W0.heap.size W0 W → Calls Try.prog g #[.agg #[.int .i64 x.nd, .int .i64 x.wl], .pointer (some B)] W (Ret (.bool (q x)) W)
set_option maxHeartbeats 1000000 in
theorem index1_any (g : FuncId) (B : Addr) (q : Al → Bool) (eg : ∀ args w, (callFunc g args).run Try.prog w = .ok (.enter g args) w) (A : Option Addr) (n c : Nat) (l : List Al) (w : World) (hc : Tells1 g B q w) (h : Als w A n l) (hn : n ≤ maxLen) :
    Calls Try.prog 68 #[.slice A n c, .func (.func g) #[] #[.pointer (some B)]] w (Ret (.int .i64 (idxT q l)) w) := by
  unfold maxLen at hn
  have hlen := h.len
  subst hlen
  have HH := Lib.hid h
  have HC := Lib.hid hc
  clear h hc
  go_enter Try.func68, Try.ntmps68
  go_wp2_with fail
  go_loopw [8] (fun i wr => IdxRel w q l i wr) (fun i _ => l.length - (intOf i).toNat)
  case atStart => exact ⟨0, by omega, rfl, by simp, Below.refl _ _⟩
  case round =>
    obtain ⟨k, hk, rfl, hall, hbel⟩ := hrel
    have HAll := Lib.hid hall
    clear hall
    by_cases hlt : k < l.length
    · obtain ⟨b, off, s, rfl, hb, hs, d0, d1⟩ := Lst.alt (HH.out.below hbel) hlt
      have HS := Lib.hid hs
      have HCall := Lib.hid (HC.out s wr hbel)
      clear hs
      cases hq : q s
      · rw [hq] at HCall
        have HN := Lib.hid (take_all (P := fun x => q x = false) HAll.out HS.out hq)
        clear hq
        go_wp2_with fail
        refine HCall.out.mono ?_
        rintro e w2 ⟨rfl, b2⟩
        go_wp2_with fail
        exact ⟨⟨k + 1, by omega, by go_num, HN.out, below_step hbel b2⟩, by simp [intOf]; omega⟩
      · rw [hq] at HCall
        have HI := Lib.hid (idx_at HAll.out HS.out hq)
        clear hq
        go_wp2_with fail
        refine HCall.out.mono ?_
        rintro e w2 ⟨rfl, b2⟩
        go_wp2_with fail
        go_ret
        exact ⟨ret_int HI.out.symm, below_step hbel b2⟩
    · obtain rfl : k = l.length := by omega
      have HI := Lib.hid (idx_none (q := q) (l := l) (by have := HAll.out; rwa [List.take_length] at this))
      go_wp2_with fail
      go_ret
      exact ⟨ret_int HI.out.symm, hbel⟩
theorem contf1_any (g : FuncId) (B : Addr) (q : Al → Bool) (eg : ∀ args w, (callFunc g args).run Try.prog w = .ok (.enter g args) w) (A : Option Addr) (n c : Nat) (l : List Al) (w : World) (hc : Tells1 g B q w) (h : Als w A n l) (hn : n ≤ maxLen) :
    Calls Try.prog 47 #[.slice A n c, .func (.func g) #[] #[.pointer (some B)]] w (Ret (.bool (l.any q)) w) := by
  have HI := Lib.hid (index1_any g B q eg A n c l w hc h hn)
  have HG := Lib.hid (idxT_ge q l)
  obtain ⟨i, hi⟩ : ∃ i, i = idxT q l := ⟨_, rfl⟩
  rw [← hi] at HI HG
  clear h hi hc eg
  go_enter Try.func47, Try.ntmps47
  go_wp2_with fail
  refine HI.out.mono ?_
  rintro e w' ⟨rfl, b1⟩
  go_wp2_with fail
  go_ret
  exact ⟨ret_bool HG.out, b1⟩
/-- a slice of alternatives, made new -/
def NewA (l : List Al) (w : World) (e : Ending) (w' : World) : Prop := ∃ A c, e = .returned (.slice A l.length c) ∧ AlsO w' w.heap.size A l.length c l ∧ Below w.heap.size w w'
set_option maxHeartbeats 1000000 in
theorem aclone_any (A : Option Addr) (n c : Nat) (p : List Al) (w : World) (h : Als w A n p) (hn : n ≤ 1000000) (hA : A = none → c = 0) :
    Calls Try.prog 51 #[.slice A n c] w (NewA p w) := by
  have hl := h.len
  subst hl
  cases A with
  | none =>
    have hp : p = [] := by
      cases p with
      | nil => rfl
      | cons x r => obtain ⟨b, off, _, e, _⟩ := h.at_ (i := 0) (by simp); cases e
    subst hp
    obtain rfl := hA rfl
    clear h hA hn
    have hnil := fun (w : World) => Lib.run_eql_slice_nil (P := Try.prog) w 22 38 none 0 0 0 0 Try.underlying22
    go_enter Try.func51, Try.ntmps51
    go_wp2_with fail
    go_ret
    exact ⟨none, 0, rfl, SOwn.nil _ _ _ _, Below.refl _ _⟩
  | some a =>
    obtain ⟨A', c', W', hrun, hown, hb, _, _⟩ := app_s layA (P := Try.prog) (w.alloc (.cells #[] 38)) w.heap.size 22 22 38 _ 16 Try.underlying22 altInfo rfl (some ⟨w.heap.size, 0, none⟩) 0 0 [] (SOwn.none _ _ _ _ _) (some a) p.length c p (h.below ((Below.refl _ _).alloc (Nat.le_refl _) _)) (by simp [maxLen]; omega) (by omega) (by simp)
    simp only [Nat.zero_add, List.nil_append] at hrun hown
    have HR := Lib.hid hrun
    have hb2 := ((Below.refl w.heap.size w).alloc (Nat.le_refl _) (.cells #[] 38)).trans hb
    clear hrun hb h
    have hnil := fun (w : World) => Lib.run_eql_slice_nil (P := Try.prog) w 22 38 (some a) p.length c 0 0 Try.underlying22
    simp only [Option.isNone_some] at hnil
    go_enter Try.func51, Try.ntmps51
    go_wp2_with (at_builtin; refine wpList_app2 rfl _ _ rfl rfl rfl HR.out ?_)
    go_ret
    exact ⟨A', c', rfl, hown, hb2⟩
set_option maxHeartbeats 1000000 in
set_option maxRecDepth 100000 in
theorem aequal_any (A B : Option Addr) (n m c d : Nat) (p q : List Al) (w : World) (h : Als w A n p) (g : Als w B m q) (hn : n ≤ maxLen) (hm : m ≤ maxLen) :
    Calls Try.prog 53 #[.slice A n c, .slice B m d] w (Drew (.bool (decide (p = q))) w) := by
  unfold maxLen at hn hm
  have hl := h.len
  have hk := g.len
  subst hl hk
  by_cases hlen : p.length = q.length
  · have hne : ((p.length : Int) != (q.length : Int)) = false := by simp [hlen]
    have hne' : (p.length != q.length) = false := by simp [hlen]
    have HL := Lib.hid hlen
    have hle : p.length ≤ q.length := by omega
    have hle' : q.length ≤ p.length := by omega
    clear hlen
    go_enter Try.func53, Try.ntmps53
    go_wp2_with fail
    go_loopw [13] (fun i wr => ∃ k d : Nat, k ≤ p.length ∧ i = .int .i64 k ∧ p.take k = q.take k ∧ wr = w.drewN d) (fun i _ => p.length - (intOf i).toNat)
    case atStart => exact ⟨0, 0, by omega, rfl, by simp, rfl⟩
    case round =>
      obtain ⟨j, dd, hj, rfl, htk, rfl⟩ := hrel
      have HTK := Lib.hid htk
      clear htk
      by_cases hlt : j < p.length
      · obtain ⟨b1, o1, x, rfl, _, hx, c0, c1⟩ := Lst.alt h hlt
        obtain ⟨b2, o2, y, rfl, _, hy, d0, d1⟩ := Lst.alt g (show j < q.length by omega)
        have HX := Lib.hid hx
        have HY := Lib.hid hy
        have HN : Hid (x ≠ y → decide (p = q) = false) := by
          show _ → _
          intro hxy
          rw [decide_eq_false_iff_not]
          intro e
          rw [e, HY.out] at HX
          have := HX.out
          injection this with this
          exact hxy this.symm
        clear hx hy h g
        by_cases h0 : x.nd = y.nd
        case neg =>
          have e0 : (x.nd != y.nd) = true := by simpa using h0
          have e0' : (x.nd == y.nd) = false := by simpa using h0
          have HF := Lib.hid (HN.out (fun e => h0 (by rw [e])))
          clear h0
          go_wp2_with fail
          go_quiet (fail)
          go_wp2_with fail
          go_ret
          exact ⟨ret_bool HF.out.symm, _, World.drewN_drewN _ _ _⟩
        have e0 : (x.nd != y.nd) = false := by simp [h0]
        have e0' : (x.nd == y.nd) = true := by simp [h0]
        by_cases h1 : x.wl = y.wl
        case neg =>
          have e1 : (x.wl != y.wl) = true := by simpa using h1
          have e1' : (x.wl == y.wl) = false := by simpa using h1
          have HF := Lib.hid (HN.out (fun e => h1 (by rw [e])))
          clear h0 h1
          go_wp2_with fail
          go_quiet (fail)
          go_wp2_with fail
          go_ret
          exact ⟨ret_bool HF.out.symm, _, World.drewN_drewN _ _ _⟩
        have e1 : (x.wl != y.wl) = false := by simp [h1]
        have e1' : (x.wl == y.wl) = true := by simp [h1]
        have HT : Hid (p.take (j + 1) = q.take (j + 1)) := by
          show _ = _
          rw [take_snoc_some HX.out, take_snoc_some HY.out, HTK.out, al_ext h0 h1]
        clear h0 h1
        go_wp2_with fail
        go_quiet (fail)
        go_wp2_with fail
        exact ⟨⟨j + 1, _, by omega, by go_num, HT.out, rfl⟩, by simp [intOf]; omega⟩
      · have HE : Hid (decide (p = q) = true) := by
          show _ = _
          rw [decide_eq_true_iff]
          have := HTK.out
          rwa [List.take_of_length_le (by omega), List.take_of_length_le (by omega)] at this
        go_wp2_with fail
        go_ret
        exact ⟨ret_bool HE.out.symm, _, rfl⟩
  · have hne : ((p.length : Int) != (q.length : Int)) = true := by rw [bne_iff_ne]; omega
    have hne' : (p.length != q.length) = true := by rw [bne_iff_ne]; omega
    have HN : Hid (decide (p = q) = false) := by
      show _ = _
      rw [decide_eq_false_iff_not]
      intro e
      exact hlen (by rw [e])
    clear hlen
    go_enter Try.func53, Try.ntmps53
    go_wp2_with fail
    go_ret
    exact ⟨ret_bool HN.out.symm, 0, rfl⟩
set_option maxHeartbeats 1000000 in
theorem fine_any (x : Al) (w : World) : Calls Try.prog 45 #[.agg #[.int .i64 x.nd, .int .i64 x.wl]] w (Ret (.bool (fineA x)) w) := by
  have b0 : Below w.heap.size w (w.alloc (.cells #[.int .i64 x.nd, .int .i64 x.wl] 38)) := (Below.refl _ _).alloc (Nat.le_refl _) _
  by_cases h1 : 1 ≤ x.nd
  case neg =>
    have HV : Hid (fineA x = false) := by show _ = _; simp [fineA, h1]
    have d0 : decide (1 ≤ x.nd) = false := by simpa using h1
    go_enter Try.func45, Try.ntmps45
    go_wp2_with fail
    go_ret
    exact ⟨ret_bool HV.out.symm, b0⟩
  have d0 : decide (1 ≤ x.nd) = true := by simpa using h1
  by_cases h2 : x.nd ≤ 48
  case neg =>
    have HV : Hid (fineA x = false) := by show _ = _; simp [fineA, h2]
    have d1 : decide (x.nd ≤ 48) = false := by simpa using h2
    go_enter Try.func45, Try.ntmps45
    go_wp2_with fail
    go_ret
    exact ⟨ret_bool HV.out.symm, b0⟩
  have d1 : decide (x.nd ≤ 48) = true := by simpa using h2
  by_cases h3 : 1 ≤ x.wl
  case neg =>
    have HV : Hid (fineA x = false) := by show _ = _; simp [fineA, h3]
    have d2 : decide (1 ≤ x.wl) = false := by simpa using h3
    go_enter Try.func45, Try.ntmps45
    go_wp2_with fail
    go_ret
    exact ⟨ret_bool HV.out.symm, b0⟩
  have d2 : decide (1 ≤ x.wl) = true := by simpa using h3
  by_cases h4 : x.wl ≤ 100000
  case neg =>
    have HV : Hid (fineA x = false) := by show _ = _; simp [fineA, h4]
    have d3 : decide (x.wl ≤ 100000) = false := by simpa using h4
    go_enter Try.func45, Try.ntmps45
    go_wp2_with fail
    go_ret
    exact ⟨ret_bool HV.out.symm, b0⟩
  have d3 : decide (x.wl ≤ 100000) = true := by simpa using h4
  have HV : Hid (fineA x = true) := by show _ = _; simp [fineA, h1, h2, h3, h4]
  go_enter Try.func45, Try.ntmps45
  go_wp2_with fail
  go_ret
  exact ⟨ret_bool HV.out.symm, b0⟩
theorem apart1_eg : ∀ args w, (callFunc 67 args).run Try.prog w = .ok (.enter 67 args) w := enters_of Try.func67 (by kernel_rfl) rfl
theorem apart1_any (a : Al) (b : Nat) (W0 : World) (h : Blk W0 b 38 #[.int .i64 a.nd, .int .i64 a.wl]) : Tells1 67 ⟨b, 0, none⟩ (fun x => a.nd == x.nd) W0 := by
  intro x W hW
  obtain ⟨x0, x1⟩ := blk2 ((h.below hW h.lt).alloc (.cells #[.int .i64 x.nd, .int .i64 x.wl] 38))
  have hlt := (h.below hW h.lt).lt
  go_enter Try.func67, Try.ntmps67
  go_wp2_with fail
  go_ret
  exact ⟨rfl, (Below.refl _ _).alloc (Nat.le_refl _) _⟩
def ApRel (w : World) (l : List Al) (i : Value) (wr : World) : Prop := ∃ k : Nat, k ≤ l.length ∧ i = .int .i64 k ∧ Apart (l.take k) ∧ Below w.heap.size w wr
set_option maxHeartbeats 2000000 in
set_option maxRecDepth 100000 in
theorem apart_any (A : Option Addr) (n c : Nat) (l : List Al) (w : World) (h : Als w A n l) (hn : n ≤ 1000) (hle : n ≤ c) :
    Calls Try.prog 46 #[.slice A n c] w (Ret (.bool (apartB l)) w) := by
  have hlen := h.len
  subst hlen
  have HH := Lib.hid h
  clear h
  go_enter Try.func46, Try.ntmps46
  go_wp2_with fail
  go_loopw [7] (fun i wr => ApRel w l i wr) (fun i _ => l.length - (intOf i).toNat)
  case atStart => exact ⟨0, by omega, rfl, by simp [Apart], Below.refl _ _⟩
  case round =>
    obtain ⟨k, hk, rfl, hap, hbel⟩ := hrel
    by_cases hlt : k < l.length
    · obtain ⟨b, off, s, rfl, hb, hs, d0, d1⟩ := Lst.alt (HH.out.below hbel) hlt
      obtain ⟨V, hV⟩ : ∃ V, V = wr.alloc (.cells #[.int .i64 s.nd, .int .i64 s.wl] 38) := ⟨_, rfl⟩
      have bV : Below wr.heap.size wr V := by rw [hV]; exact (Below.refl _ _).alloc (Nat.le_refl _) _
      have kV : Blk V wr.heap.size 38 #[.int .i64 s.nd, .int .i64 s.wl] := by rw [hV]; exact Blk.new _ _ _
      have b0V := below_step hbel bV
      have HCf := Lib.hid (contf1_any 67 ⟨wr.heap.size, 0, none⟩ (fun x => s.nd == x.nd) apart1_eg (some ⟨b, off, none⟩) k c (l.take k) V (apart1_any s wr.heap.size V kV) (((HH.out.below b0V).pre k hk)) (by simp [maxLen]; omega))
      have HAp := Lib.hid hap
      have hsn := apart_snoc hs
      have HSn := Lib.hid hsn
      have hki : (k : Int) < (l.length : Int) := by omega
      have hkc : (k : Int) ≤ (c : Int) := by omega
      have hkc' : k ≤ c := by omega
      cases hq : (l.take k).any (fun x => s.nd == x.nd)
      · rw [hq] at HCf
        have HN : Hid (Apart (l.take (k + 1))) := by
          refine HSn.out.2 ⟨HAp.out, fun x hx e => ?_⟩
          rw [List.any_eq_false] at hq
          exact hq x hx (by simp [e])
        clear hq hs hsn hap
        go_wp2_with fail
        rw [← hV]
        clear hV
        refine HCf.out.mono ?_
        rintro e w2 ⟨rfl, b2⟩
        go_wp2_with fail
        exact ⟨⟨k + 1, by omega, by go_num, HN.out, below_step b0V b2⟩, by simp [intOf]; omega⟩
      · rw [hq] at HCf
        have HR : Hid (apartB l = false) := by
          show _ = _
          rw [apartB, decide_eq_false_iff_not]
          intro ha
          obtain ⟨x, hx, e⟩ := List.any_eq_true.1 hq
          exact (HSn.out.1 (apart_take ha)).2 x hx (beq_iff_eq.1 e).symm
        clear hq hs hsn hap
        go_wp2_with fail
        rw [← hV]
        clear hV
        refine HCf.out.mono ?_
        rintro e w2 ⟨rfl, b2⟩
        go_wp2_with fail
        go_ret
        exact ⟨ret_bool HR.out.symm, below_step b0V b2⟩
    · obtain rfl : k = l.length := by omega
      have HR : Hid (apartB l = true) := by
        show _ = _
        rw [apartB, decide_eq_true_iff]
        rwa [List.take_length] at hap
      clear hap
      go_wp2_with fail
      go_ret
      exact ⟨ret_bool HR.out.symm, hbel⟩
theorem check1_eg : ∀ args w, (callFunc 48 args).run Try.prog w = .ok (.enter 48 args) w := enters_of Try.func48 (by kernel_rfl) rfl
theorem check1_any (W0 : World) : Tells0 48 ⟨0, 0, none⟩ (fun x => !fineA x) W0 := by
  intro x W hW
  have HF := Lib.hid (fine_any x)
  go_enter Try.func48, Try.ntmps48
  go_wp2_with fail
  refine (HF.out _).mono ?_
  rintro e w1 ⟨rfl, b1⟩
  go_wp2_with fail
  go_ret
  exact ⟨rfl, below_step ((Below.refl _ _).alloc (Nat.le_refl _) _) b1⟩
end Go.Proofs.Ythfnmighhoighaa.ShapeW
