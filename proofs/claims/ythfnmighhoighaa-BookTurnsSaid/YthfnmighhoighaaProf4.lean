/-
  Contracts of muster/profile: the closure of Add, Add.
-/
import Derived.Test.YthfnmighhoighaaProf3
import Derived.Test.YthfnmighhoighaaProfPlain3
import Derived.Deep.CutBlock
namespace Go.Proofs.Ythfnmighhoighaa.ProfW
open Go.RowKit Mem Prof
set_option linter.unusedVariables false

/-- the box of what is put together -/
def OutS (bo : Nat) (w : World) (l : List Stp) : Prop := ∃ A c, Blk w bo 56 #[.slice A l.length c] ∧ StepsO w (bo + 1) A l.length c l ∧ A ≠ some ⟨bo, 0, none⟩
theorem OutS.below {bo : Nat} {w w' : World} {l : List Stp} (h : OutS bo w l) (hb : Below w.heap.size w w') : OutS bo w' l := by
  obtain ⟨A, c, h1, h2, h3⟩ := h
  exact ⟨A, c, h1.below hb h1.lt, h2.below hb, h3⟩
def PutPost (bo : Nat) (l : List Stp) (w : World) (e : Ending) (w' : World) : Prop := e = .returned (.tuple #[]) ∧ OutS bo w' l ∧ Below bo w w'

theorem put_app {bo : Nat} {w : World} {l : List Stp} {A : Option Addr} {c : Nat} (h1 : Blk w bo 56 #[.slice A l.length c]) (h2 : StepsO w (bo + 1) A l.length c l) (h3 : A ≠ some ⟨bo, 0, none⟩) (hl : l.length ≤ 100000) (a f : Int) :
    ∃ A' c' W', (Builtin.append_ #[56, 56] 56 #[.slice A l.length c, .slice (some ⟨w.heap.size, 0, none⟩) 1 1]).run Try.prog (w.alloc (.cells #[.int .i64 a, .int .i64 f] 77)) = .ok (.slice A' (l.length + 1) c') W' ∧
      Blk W' bo 56 #[.slice A l.length c] ∧ OutS bo (W'.setCell ⟨bo, 0, none⟩ (.slice A' (l.length + 1) c')) (l ++ [(a, f)]) ∧ Below bo w (W'.setCell ⟨bo, 0, none⟩ (.slice A' (l.length + 1) c')) := by
  have hlt := h1.lt
  obtain ⟨A', c', W', hrun, hown, hb, hfr, hA⟩ := app_s layS (P := Try.prog) (w.alloc (.cells #[.int .i64 a, .int .i64 f] 77)) (bo + 1) 56 56 77 _ 16 Try.underlying56 stepInfo rfl A l.length c l (h2.below ((Below.refl _ _).alloc (Nat.le_refl _) _)) (some ⟨w.heap.size, 0, none⟩) 1 1 [(a, f)] (Lst.new layS w (a, f) #[.int .i64 a, .int .i64 f] _ rfl) (by simp [maxLen]; omega) (by omega) (by simp; omega)
  have hk : Blk W' bo 56 #[.slice A l.length c] := (hfr bo (by simp; omega) h3).trans (h1.alloc _)
  refine ⟨A', c', W', hrun, hk, ⟨A', c', ?_, ?_, ?_⟩, ?_⟩
  · have := hk.set 0 (.slice A' (l.length + 1) c')
    simpa using this
  · have := hown.far (p := ⟨bo, 0, none⟩) (by simp) (.slice A' (l.length + 1) c')
    simpa using this
  · rcases hA with rfl | rfl
    · exact h3
    · intro e
      injection e with e
      injection e with e _
      simp at e
      omega
  · exact ((((Below.refl bo w).alloc (by omega) (.cells #[.int .i64 a, .int .i64 f] 77)).trans (hb.mono (by omega)))).setCell (p := ⟨bo, 0, none⟩) (Nat.le_refl _) _

set_option maxHeartbeats 1000000 in
theorem put_any (bo : Nat) (l : List Stp) (a f : Int) (w : World) (h : OutS bo w l) (hl : l.length ≤ 100000) :
    Calls Try.prog 72 #[.int .i64 a, .int .i64 f, .pointer (some ⟨bo, 0, none⟩)] w (PutPost bo (put l (a, f)) w) := by
  obtain ⟨A, c, h1, h2, h3⟩ := h
  have c0 : w.cell? ⟨bo, 0, none⟩ = some (.slice A l.length c) := h1.cell 0
  have hlt := h1.lt
  obtain ⟨A', c', W', hrun, hk, hout, hbel⟩ := put_app h1 h2 h3 hl a f
  have d0 : W'.cell? ⟨bo, 0, none⟩ = some (.slice A l.length c) := hk.cell 0
  have f0 := hk.frozen 0
  have HR := Lib.hid hrun
  by_cases hn : l.length = 0
  · have hq : ((l.length : Int) == 0) = true := by simp [hn]
    have hq2 : (l.length == 0) = true := by simp [hn]
    have HP : Hid (put l (a, f) = l ++ [(a, f)]) := by
      show _ = _
      have : l = [] := List.eq_nil_of_length_eq_zero hn
      subst this
      rfl
    clear hn hrun h1 h2 h3
    go_enter Try.func72, Try.ntmps72
    go_wp2_with (at_builtin; refine wpList_app2 rfl _ _ rfl rfl rfl HR.out ?_)
    go_end0
    rw [HP.out]
    exact ⟨rfl, hout, hbel⟩
  · have hq : ((l.length : Int) == 0) = false := by rw [beq_eq_false_iff_ne]; omega
    have hq2 : (l.length == 0) = false := by rw [beq_eq_false_iff_ne]; omega
    obtain ⟨b, off, s, hAe, _, hs, e0, e1⟩ := Lst.two (h2.lst layS) (show l.length - 1 < l.length by omega)
    have hw1 : (1 : Int) ≤ (l.length : Int) := by omega
    have hw4 : ((l.length : Int) - 1).toNat = l.length - 1 := by omega
    have hla : l.getLast? = some s := by rw [List.getLast?_eq_getElem?]; exact hs
    subst hAe
    by_cases hf : s.2 = f
    · have hf1 : (s.2 != f) = false := by simp [hf]
      have HP : Hid (put l (a, f) = l) := by show _ = _; rw [put, if_pos (by rw [hla]; simp [hf])]
      have HO : Hid (OutS bo w l) := ⟨_, c, h1, h2, h3⟩
      clear hn hrun h1 h2 h3 hf hla hs HR hout
      go_enter Try.func72, Try.ntmps72
      go_wp2_with fail
      go_end0
      rw [HP.out]
      exact ⟨rfl, HO.out, Below.refl _ _⟩
    · have hf1 : (s.2 != f) = true := by simpa using hf
      have HP : Hid (put l (a, f) = l ++ [(a, f)]) := by show _ = _; rw [put, if_neg (by rw [hla]; simpa using hf)]
      clear hn hrun h1 h2 h3 hf hla hs
      go_enter Try.func72, Try.ntmps72
      go_wp2_with (at_builtin; refine wpList_app2 rfl _ _ rfl rfl rfl HR.out ?_)
      go_end0
      rw [HP.out]
      exact ⟨rfl, hout, hbel⟩

/-- what Add returns -/
def AddPost (r : List Stp × Int) (w : World) (e : Ending) (w' : World) : Prop := ∃ A c, e = .returned (.tuple #[.slice A r.1.length c, .int .i64 r.2]) ∧ StepsO w' w.heap.size A r.1.length c r.1 ∧ Below w.heap.size w w'

theorem head_app {bo : Nat} {w : World} {A : Option Addr} {i : Nat} {l : List Stp} (h1 : Blk w bo 56 #[.slice none 0 0]) (h2 : Steps w A i l) (hl : i ≤ 100000) (c : Nat) :
    ∃ A' c' W', (Builtin.append_ #[56, 56] 56 #[.slice none 0 0, .slice A i c]).run Try.prog w = .ok (.slice A' i c') W' ∧
      Blk W' bo 56 #[.slice none 0 0] ∧ OutS bo (W'.setCell ⟨bo, 0, none⟩ (.slice A' i c')) l ∧ Below bo w (W'.setCell ⟨bo, 0, none⟩ (.slice A' i c')) := by
  have hlt := h1.lt
  have hlen := h2.len
  obtain ⟨A', c', W', hrun, hown, hb, hfr, hA⟩ := app_s layS (P := Try.prog) w (bo + 1) 56 56 77 _ 16 Try.underlying56 stepInfo rfl none 0 0 [] (SOwn.nil _ _ _ _) A i c l h2 (by simp [maxLen]; omega) (by omega) (by omega)
  simp only [Nat.zero_add, List.nil_append] at hrun hown
  have hk : Blk W' bo 56 #[.slice none 0 0] := (hfr bo hlt (by simp)).trans h1
  subst hlen
  refine ⟨A', c', W', hrun, hk, ⟨A', c', ?_, hown.far (p := ⟨bo, 0, none⟩) (by simp) _, ?_⟩, ?_⟩
  · have := hk.set 0 (.slice A' l.length c')
    simpa using this
  · rcases hA with rfl | rfl
    · simp
    · intro e
      injection e with e
      injection e with e _
      omega
  · exact (hb.mono (Nat.le_succ bo)).setCell (p := ⟨bo, 0, none⟩) (Nat.le_refl _) _

theorem Lst.take {α : Type} {f : α → List Value} {k : Nat} {w : World} {A : Option Addr} {n : Nat} {l : List α} (h : Lst f k w A n l) (i : Nat) (hi : i ≤ n) : Lst f k w A i (l.take i) := by
  have hl := h.len
  refine ⟨by simp; omega, fun r hr => Cells.each h r (by obtain ⟨x, hx, rfl⟩ := List.mem_map.1 hr; exact List.mem_map.2 ⟨x, List.mem_of_mem_take hx, rfl⟩), fun h0 => ?_⟩
  obtain ⟨b, off, hA, hb, hc⟩ := Cells.at_ h (by omega)
  refine ⟨b, off, hA, hb, fun j r hr => hc j r ?_⟩
  rw [List.getElem?_map] at hr ⊢
  have hj : j < i := by
    rcases Nat.lt_or_ge j i with h' | h'
    · exact h'
    · rw [List.getElem?_eq_none (by simp; omega)] at hr; cases hr
  rw [List.getElem?_take_of_lt hj] at hr
  exact hr

def prevF (p : List Stp) (k : Nat) : Int := (p.getD (k - 1) (0, 0)).2
theorem prevF_at {p : List Stp} {k : Nat} {r : Stp} (h : p[k - 1]? = some r) : prevF p k = r.2 := by simp [prevF, List.getD, h]
def R1of (p : List Stp) (i k : Nat) : List Stp := (p.take k).drop (i + 1)
theorem R1of_snoc {p : List Stp} {i k : Nat} {s : Stp} (hk : i + 1 ≤ k) (hs : p[k]? = some s) : R1of p i (k + 1) = R1of p i k ++ [s] := by
  unfold R1of
  have hl := (List.getElem?_eq_some_iff.1 hs).1
  rw [take_snoc_some hs, List.drop_append_of_le_length (by simp; omega)]
theorem R1of_start (p : List Stp) (i : Nat) : R1of p i (i + 1) = [] := by
  unfold R1of
  rw [List.drop_eq_nil_iff]
  simp
  omega
theorem R1of_len (p : List Stp) (i k : Nat) : (R1of p i k).length ≤ p.length := by unfold R1of; simp; omega
def midR (p : List Stp) (i k : Nat) (x : Stp) (a n : Int) : List Stp := headR (p.take i) x a n ++ (R1of p i k).map (more n)
theorem midR_snoc {p : List Stp} {i k : Nat} {x s : Stp} {a n : Int} (hk : i + 1 ≤ k) (hs : p[k]? = some s) : midR p i (k + 1) x a n = midR p i k x a n ++ [(s.1, s.2 + n)] := by
  unfold midR
  rw [R1of_snoc hk hs]
  simp [more]
theorem midR_len (p : List Stp) (i k : Nat) (x : Stp) (a n : Int) : (midR p i k x a n).length ≤ 2 * p.length + 2 := by
  have := R1of_len p i k
  unfold midR headR
  simp only [List.length_append, List.length_map, List.length_take, List.length_cons, List.length_nil]
  split <;> simp <;> omega
def endR (p : List Stp) (k : Nat) (b : Int) (y : Stp) : List Stp := if b < y.1 then [(b, prevF p k)] else []
def LoopRel (w : World) (bo : Nat) (p : List Stp) (i : Nat) (x : Stp) (a b n : Int) (X Y : Value) (wr : World) : Prop :=
  ∃ k : Nat, i + 1 ≤ k ∧ k ≤ p.length ∧ X = .int .i64 k ∧ Y = .int .i64 (prevF p k) ∧ (∀ s ∈ R1of p i k, s.1 < b) ∧ OutS bo wr (dd (midR p i k x a n)) ∧ Below w.heap.size w wr
def LoopEnd (w : World) (bo : Nat) (p : List Stp) (i : Nat) (x : Stp) (a b n : Int) (X Y : Value) (wr : World) : Prop :=
  ∃ (k : Nat) (f : Int), i + 1 ≤ k ∧ k ≤ p.length ∧ X = .int .i64 k ∧ Y = .int .i64 f ∧ (∀ s ∈ R1of p i k, s.1 < b) ∧ Below w.heap.size w wr ∧
    ((k = p.length ∧ f = prevF p k ∧ OutS bo wr (dd (midR p i k x a n))) ∨ ∃ y, p[k]? = some y ∧ b ≤ y.1 ∧ OutS bo wr (dd (midR p i k x a n ++ endR p k b y)))
theorem take_split {p : List Stp} {i k : Nat} {x : Stp} (hx : p[i]? = some x) (hk : i + 1 ≤ k) : p.take k = p.take i ++ [x] ++ R1of p i k := by
  unfold R1of
  conv => lhs; rw [← List.take_append_drop (i + 1) (p.take k)]
  rw [List.take_take, Nat.min_eq_left hk, take_snoc_some hx]
theorem all_split {p : List Stp} {i k : Nat} {x : Stp} (hx : p[i]? = some x) (hk : i + 1 ≤ k) : p = p.take i ++ [x] ++ R1of p i k ++ p.drop k := by
  rw [← take_split hx hk, List.take_append_drop]
theorem last_of {p : List Stp} {i k : Nat} {x : Stp} (hx : p[i]? = some x) (hk : i + 1 ≤ k) (hkl : k ≤ p.length) : ∀ q s, [x] ++ R1of p i k = q ++ [s] → prevF p k = s.2 := by
  intro q s e
  have h1 := take_split hx hk
  rw [List.append_assoc, e, ← List.append_assoc] at h1
  have h2 : (p.take k)[k - 1]? = some s := by
    rw [h1]
    have hl : (p.take i ++ q).length = k - 1 := by
      have := congrArg List.length h1
      simp only [List.length_take, List.length_append, List.length_cons, List.length_nil] at this
      simp only [List.length_append, List.length_take]
      omega
    rw [List.getElem?_append_right (by omega), hl]
    simp
  rw [List.getElem?_take_of_lt (by omega)] at h2
  exact prevF_at h2
theorem R1of_late {p : List Stp} {i k : Nat} {a : Int} (h : ∀ s ∈ p.drop (i + 1), a < s.1) : ∀ s ∈ R1of p i k, a < s.1 := by
  intro s hs
  unfold R1of at hs
  rw [List.drop_take] at hs
  exact h s (List.mem_of_mem_take hs)
theorem drop_late {p : List Stp} {k : Nat} {b : Int} {y : Stp} (hu : p.Pairwise (fun a b => a.1 < b.1)) (hy : p[k]? = some y) (hb : b ≤ y.1) : ∀ s ∈ p.drop k, b ≤ s.1 := by
  intro s hs
  obtain ⟨j, hj⟩ := List.mem_iff_getElem?.1 hs
  rw [List.getElem?_drop] at hj
  obtain ⟨h1, rfl⟩ := List.getElem?_eq_some_iff.1 hj
  obtain ⟨h2, rfl⟩ := List.getElem?_eq_some_iff.1 hy
  rcases Nat.eq_zero_or_pos j with rfl | hpos
  · simpa using hb
  · have := List.pairwise_iff_getElem.1 hu k (k + j) h2 h1 (by omega)
    omega
/-- what was put together is the document's -/
theorem out_end {p : List Stp} (hC : Chk p) {i : Nat} {x : Stp} {a b n : Int} (hx : p[i]? = some x) (h0 : 0 ≤ a) (ha : a ≤ 1000000) (hab : a < b) (hxa : x.1 ≤ a) (hl : ∀ s ∈ p.drop (i + 1), a < s.1) (hk : i + 1 ≤ p.length) (hb : ∀ s ∈ R1of p i p.length, s.1 < b) :
    dd (midR p i p.length x a n ++ (if b ≤ 1000000 then [(b, prevF p p.length)] else [])) = out p a b n := by
  have hsp := all_split hx hk
  have hC' := hC
  rw [hsp] at hC'
  have h := out_eq (n := n) hC' h0 (by unfold Prof.End; omega) hab hxa (fun s hs => ⟨R1of_late hl s hs, hb s hs⟩) (by simp) (last_of hx hk (Nat.le_refl _))
  rw [← hsp] at h
  rw [← h, List.drop_length]
  rfl
theorem out_mid {p : List Stp} (hC : Chk p) {i k : Nat} {x y : Stp} {a b n : Int} (hx : p[i]? = some x) (h0 : 0 ≤ a) (ha : a ≤ 1000000) (hab : a < b) (hxa : x.1 ≤ a) (hl : ∀ s ∈ p.drop (i + 1), a < s.1) (hk : i + 1 ≤ k) (hy : p[k]? = some y) (hby : b ≤ y.1) (hb : ∀ s ∈ R1of p i k, s.1 < b) :
    dd (midR p i k x a n ++ endR p k b y ++ p.drop k) = out p a b n := by
  have hkl := (List.getElem?_eq_some_iff.1 hy).1
  have hsp := all_split hx hk
  have hC' := hC
  rw [hsp] at hC'
  have h := out_eq (n := n) hC' h0 (by unfold Prof.End; omega) hab hxa (fun s hs => ⟨R1of_late hl s hs, hb s hs⟩) (drop_late hC.nf.up.pairwise hy hby) (last_of hx hk (by omega))
  rw [← hsp] at h
  rw [← h]
  have hd : p.drop k = y :: p.drop (k + 1) := by
    obtain ⟨_, rfl⟩ := List.getElem?_eq_some_iff.1 hy
    exact List.drop_eq_getElem_cons hkl
  rw [hd]
  unfold tailR endR midR
  rw [List.append_assoc]
def head0 (L1 : List Stp) (x : Stp) (a : Int) : List Stp := L1 ++ (if x.1 < a then [x] else [])
set_option maxHeartbeats 4000000 in
set_option maxRecDepth 100000 in
theorem add_main (A : Option Addr) (c : Nat) (p : List Stp) (a b n : Int) (w : World) (h : Steps w A p.length p) (hc : p.length ≤ c) (hck : chkB p = true) (ha : tickB a = true) (hab : a < b) (hf : fitB n = true) :
    Calls Try.prog 61 #[.slice A p.length c, .int .i64 a, .int .i64 b, .int .i64 n] w (AddPost (add p a b n) w) := by
  have hC := chk_of hck
  have hfew := hC.few
  have HCk := Lib.hid (check_any A p.length c p w h (by simp [maxLen]; omega))
  rw [chkE_yes hck] at HCk
  have HIn := Lib.hid (in_any a)
  rw [ha] at HIn
  have HFi := Lib.hid (fits_any n)
  rw [hf] at HFi
  have ha0 : 0 ≤ a := by simp [tickB] at ha; exact ha.1
  have ha1 : a ≤ 1000000 := by simp [tickB] at ha; exact ha.2
  obtain ⟨hn1, hn2⟩ := fitB_iff.1 hf
  have hba : (b == a) = false := by rw [beq_eq_false_iff_ne]; omega
  have HC := Lib.hid hC
  have HH := Lib.hid h
  have HA : Hid (add p a b n = if chkB (out p a b n) = false then ([], 3) else (out p a b n, 0)) := by
    show _ = _
    have : argB a b n = true := by simp [argB]; omega
    rw [add, if_neg (by simp [hck]), if_neg (by simp [this])]
  clear h hC hck ha hf
  go_enter Try.func61, Try.ntmps61
  go_wp2_with fail
  go_step3
  go_wp2_with fail
  refine HCk.out.mono ?_
  rintro e w1 ⟨rfl, b1⟩
  go_wp2_with fail
  refine (HIn.out _).mono ?_
  rintro e w2 ⟨rfl, rfl⟩
  go_wp2_with fail
  refine (HFi.out _).mono ?_
  rintro e w2 ⟨rfl, rfl⟩
  go_wp2_with fail
  obtain ⟨V, hV⟩ : ∃ V, V = w1.alloc (.cells #[.slice none 0 0] 56) := ⟨_, rfl⟩
  obtain ⟨bo, hbo⟩ : ∃ bo, bo = w1.heap.size := ⟨_, rfl⟩
  have hVb : Blk V bo 56 #[.slice none 0 0] := by rw [hV, hbo]; exact Blk.new _ _ _
  have bV : Below w.heap.size w V := by rw [hV]; exact b1.alloc b1.size _
  have hbw : w.heap.size ≤ bo := by rw [hbo]; exact b1.size
  rw [← hV, ← hbo]
  clear hV hbo b1
  refine (place_any A p.length c p a V (HH.out.below bV) HC.out ha0).mono ?_
  rintro e w3 ⟨i, hi, hpl, rfl, b3⟩
  obtain ⟨x, hx, hxa, hnw, hsp, hlate⟩ := hpl.split
  have HSp := Lib.hid hsp
  have HLt := Lib.hid hlate
  have hb3 := hVb.below b3 hVb.lt
  have bw3 := below_step bV b3
  obtain ⟨ab, off, x', rfl, hbl, hx', c0, c1⟩ := Lst.two (HH.out) hi
  rw [hx] at hx'
  injection hx' with hx'
  subst hx'
  have hxlo := HC.out.lo x (List.mem_of_getElem? hx)
  have hxhi := HC.out.hi x (List.mem_of_getElem? hx)
  obtain ⟨A4, c4, W4, hrun4, hk4, hout4, bel4⟩ := head_app hb3 (Lst.take (HH.out.below bw3) i (by omega)) (by omega) i
  have HR4 := Lib.hid hrun4
  have d0 : w3.cell? ⟨bo, 0, none⟩ = some (.slice none 0 0) := hb3.cell 0
  have d4 : W4.cell? ⟨bo, 0, none⟩ = some (.slice none 0 0) := hk4.cell 0
  have f4 := hk4.frozen 0
  have HX := Lib.hid hx
  have HN := Lib.hid hnw
  have hci : i ≤ c := by omega
  clear hrun4 hx hnw hsp hlate hpl hVb bV b3
  go_upto_region 12 with (at_builtin; refine wpList_app2 rfl _ _ rfl rfl rfl HR4.out ?_)
  obtain ⟨V5, hV5⟩ : ∃ V5, V5 = W4.setCell ⟨bo, 0, none⟩ (.slice A4 i c4) := ⟨_, rfl⟩
  rw [← hV5] at hout4 bel4 ⊢
  have bw5 : Below w.heap.size w V5 := bw3.trans (bel4.mono hbw)
  have HS : Hid (∀ w', Below w.heap.size w w' → (w'.cell? ⟨ab, off + i * 2, none⟩ = some (.int .i64 x.1) ∧ w'.cell? ⟨ab, off + i * 2 + 1, none⟩ = some (.int .i64 x.2))) := by
    show ∀ w', _
    intro w' hb'
    exact ⟨(hb'.cell (p := ⟨ab, off + i * 2, none⟩) hbl).trans c0, (hb'.cell (p := ⟨ab, off + i * 2 + 1, none⟩) hbl).trans c1⟩
  have hI : (i : Int) < (p.length : Int) := by omega
  have HI := Lib.hid hi
  clear hV5 d0 d4 f4 HR4 hk4 c0 c1 bw3 hb3 bel4 HCk HIn HFi
  obtain ⟨c0, c1⟩ := HS.out V5 bw5
  go_upto_if 58 with fail
  go_cut [] (fun wx => OutS bo wx (dd (head0 (p.take i) x a)) ∧ Below w.heap.size w wx)
  case first =>
    by_cases hxa2 : x.1 < a
    · have hP : Hid (∀ w', OutS bo w' (p.take i) → Calls Try.prog 72 #[.int .i64 x.1, .int .i64 x.2, .pointer (some ⟨bo, 0, none⟩)] w' (PutPost bo (dd (p.take i ++ [x])) w')) := by
        show ∀ w', _
        intro w' h'
        rw [dd_snoc, dd_take HC.out.nf]
        exact put_any bo _ x.1 x.2 w' h' (by simp; omega)
      have H0 : Hid (head0 (p.take i) x a = p.take i ++ [x]) := by show _ = _; rw [head0, if_pos hxa2]
      go_wp2_with fail
      go_region_held3 (fun w' => w'.cell? ⟨ab, off + i * 2, none⟩ = some (.int .i64 x.1) ∧ w'.cell? ⟨ab, off + i * 2 + 1, none⟩ = some (.int .i64 x.2))
        (first | with_reducible exact HS.out _ bw5.drew | with_reducible exact HS.out _ bw7)
        (first
          | (go_at_call 72; refine (hP.out V5.drew (hout4.below ((Below.refl _ _).drew))).mono ?_; rintro e w7 ⟨rfl, ho7, hb7⟩; have bw7 : Below w.heap.size w w7 := bw5.drew.trans (hb7.mono hbw)))
      go_wp2_with fail
      go_meet
      rw [H0.out]
      exact ⟨ho7, bw7⟩
    · have H0 : Hid (head0 (p.take i) x a = p.take i) := by show _ = _; rw [head0, if_neg hxa2, List.append_nil]
      go_wp2_with fail
      go_meet
      rw [H0.out, dd_take HC.out.nf]
      exact ⟨hout4, bw5⟩
  case rest =>
    obtain ⟨hout6, bw6⟩ := hcut
    clear hout4 bw5 c0 c1
    obtain ⟨c0, c1⟩ := HS.out wc bw6
    have hlen0 : (dd (head0 (p.take i) x a)).length ≤ 1001 := by
      have h1 := dd_len (head0 (p.take i) x a)
      have h2 : (head0 (p.take i) x a).length ≤ i + 1 := by
        unfold head0
        split
        · simp; omega
        · simp; omega
      omega
    go_wp2_with fail
    refine (put_any bo _ a (x.2 + n) wc hout6 (by omega)).mono ?_
    rw [← dd_snoc]
    rintro e w8 ⟨rfl, ho8, hb8⟩
    have bw8 : Below w.heap.size w w8 := bw6.trans (hb8.mono hbw)
    clear c0 c1 hout6 bw6 hb8
    obtain ⟨c0, c1⟩ := HS.out w8 bw8
    go_wp2_with fail
    go_step3
    have hst : LoopRel w bo p i x a b n (.int .i64 ((i : Int) + 1)) (.int .i64 x.2) w8 := by
      refine ⟨i + 1, Nat.le_refl _, by have := HI.out; omega, by go_num, ?_, by rw [R1of_start]; simp, ?_, bw8⟩
      · rw [prevF_at (k := i + 1) (r := x) HX.out]
      · have e : midR p i (i + 1) x a n = head0 (p.take i) x a ++ [(a, x.2 + n)] := by unfold midR; rw [R1of_start]; simp [headR, head0]
        rw [e]
        exact ho8
    have HSt := Lib.hid hst
    have hi1 := HI.out
    clear hst ho8 c0 c1
    go_upto_block 1 with fail
    go_cut [12, 14] (fun X Y wx => LoopEnd w bo p i x a b n X Y wx)
    case first =>
      go_wp2_with fail
      go_loopw [12, 14] (fun X Y wr => LoopRel w bo p i x a b n X Y wr) (fun X _ _ => p.length - (intOf X).toNat)
      case atStart => exact HSt.out
      case round =>
        clear HSt
        obtain ⟨k, hk1, hk2, rfl, rfl, hlb, hO, bw⟩ := hrel
        have HLb := Lib.hid hlb
        have hml := midR_len p i k x a n
        have hdl := dd_len (midR p i k x a n)
        clear hlb
        by_cases hlt : k < p.length
        · obtain ⟨ab', off', s, e, _, hs, d0, d1⟩ := Lst.two (HH.out.below bw) hlt
          injection e with e
          injection e with e1 e2
          subst e1 e2
          have hslo := HC.out.lo s (List.mem_of_getElem? hs)
          have hshi := HC.out.hi s (List.mem_of_getElem? hs)
          have HSs := Lib.hid hs
          clear hs
          by_cases hsb : s.1 < b
          · go_wp2_with fail
            refine (put_any bo _ s.1 (s.2 + n) wr hO (by omega)).mono ?_
            rw [← dd_snoc]
            rintro e w9 ⟨rfl, ho9, hb9⟩
            have bw9 : Below w.heap.size w w9 := bw.trans (hb9.mono hbw)
            have HO9 : Hid (OutS bo w9 (dd (midR p i (k + 1) x a n))) := by rw [midR_snoc hk1 HSs.out]; exact ho9
            have HY : Hid (prevF p (k + 1) = s.2) := prevF_at HSs.out
            clear ho9 hO hb9
            go_wp2_with fail
            refine ⟨⟨k + 1, by omega, by omega, by go_num, by rw [HY.out], ?_, HO9.out, bw9⟩, by simp [intOf]; omega⟩
            rw [R1of_snoc hk1 HSs.out]
            intro z hz
            rcases List.mem_append.1 hz with hz | hz
            · exact HLb.out z hz
            · simp at hz; subst hz; exact hsb
          · by_cases hsg : b < s.1
            · obtain ⟨ab', off', r, e, _, hr, g0, g1⟩ := Lst.two (HH.out.below bw) (show k - 1 < p.length by omega)
              injection e with e
              injection e with e1 e2
              subst e1 e2
              have hw4 : ((k : Int) - 1).toNat = k - 1 := by omega
              have hw5 : (1 : Int) ≤ (k : Int) := by omega
              have HRr : Hid (prevF p k = r.2) := prevF_at hr
              clear hr
              go_wp2_with fail
              refine (put_any bo _ b r.2 wr hO (by omega)).mono ?_
              rw [← dd_snoc]
              rintro e w9 ⟨rfl, ho9, hb9⟩
              have bw9 : Below w.heap.size w w9 := bw.trans (hb9.mono hbw)
              have HE : Hid (endR p k b s = [(b, r.2)]) := by show _ = _; rw [endR, if_pos hsg, HRr.out]
              clear hO hb9
              go_wp2_with fail
              go_meet
              refine ⟨k, _, hk1, hk2, rfl, rfl, HLb.out, bw9, .inr ⟨s, HSs.out, by omega, ?_⟩⟩
              rw [HE.out]
              exact ho9
            · have HE : Hid (endR p k b s = []) := by show _ = _; rw [endR, if_neg hsg]
              go_wp2_with fail
              go_meet
              refine ⟨k, _, hk1, hk2, rfl, rfl, HLb.out, bw, .inr ⟨s, HSs.out, by omega, ?_⟩⟩
              rw [HE.out, List.append_nil]
              exact hO
        · go_wp2_with fail
          go_meet
          exact ⟨k, _, hk1, hk2, rfl, rfl, HLb.out, bw, .inl ⟨by omega, rfl, hO⟩⟩
    case rest =>
      obtain ⟨k, f, hk1, hk2, rfl, rfl, hlb, bw9, hend⟩ := hcut
      have HLb := Lib.hid hlb
      have hml := midR_len p i k x a n
      clear HSt hlb
      go_upto_if 137 with fail
      go_cut [] (fun wx => OutS bo wx (out p a b n) ∧ (out p a b n).length ≤ 100000 ∧ Below w.heap.size w wx)
      case first =>
        rcases hend with ⟨hkl, rfl, hO⟩ | ⟨y, hy, hby, hO⟩
        · subst hkl
          have hdl := dd_len (midR p i p.length x a n)
          by_cases hbe : b ≤ 1000000
          · have HE := Lib.hid (out_end (n := n) HC.out HX.out ha0 ha1 hab hxa HLt.out hk1 HLb.out)
            rw [if_pos hbe] at HE
            go_wp2_with fail
            refine (put_any bo _ b _ wc hO (by omega)).mono ?_
            rw [← dd_snoc, HE.out]
            rintro e w10 ⟨rfl, ho10, hb10⟩
            go_wp2_with fail
            go_meet
            exact ⟨ho10, by rw [← HE.out]; have := dd_len (midR p i p.length x a n ++ [(b, prevF p p.length)]); simp only [List.length_append, List.length_cons, List.length_nil] at this; omega, bw9.trans (hb10.mono hbw)⟩
          · have HE := Lib.hid (out_end (n := n) HC.out HX.out ha0 ha1 hab hxa HLt.out hk1 HLb.out)
            rw [if_neg hbe, List.append_nil] at HE
            rw [HE.out] at hO
            go_wp2_with fail
            go_meet
            exact ⟨hO, by rw [← HE.out]; omega, bw9⟩
        · have hklt := (List.getElem?_eq_some_iff.1 hy).1
          have HE := Lib.hid (out_mid (n := n) HC.out HX.out ha0 ha1 hab hxa HLt.out hk1 hy hby HLb.out)
          have hqk : ((k : Int) == (p.length : Int)) = false := by rw [beq_eq_false_iff_ne]; omega
          have hqk2 : (k == p.length) = false := by rw [beq_eq_false_iff_ne]; omega
          have hI2 : (k : Int) ≤ (p.length : Int) := by omega
          clear hy hby
          go_wp2_with fail
          obtain ⟨q, hq⟩ : ∃ q, q = midR p i k x a n ++ endR p k b y := ⟨_, rfl⟩
          have hql : q.length ≤ 3000 := by
            rw [hq, List.length_append]
            have : (endR p k b y).length ≤ 1 := by
              unfold endR
              split <;> simp
            omega
          rw [← hq] at hO HE
          rw [hqk]
          clear hq hqk hqk2
          have HO := Lib.hid hO
          clear hO
          obtain ⟨N, hN⟩ : ∃ N, N = p.length - k := ⟨_, rfl⟩
          rw [← hN]
          have hN1 : k + N ≤ p.length := by omega
          have hN2 : p.length ≤ k + N := by omega
          clear hN
          go_loopw [148] (fun X wr => ∃ j : Nat, j ≤ N ∧ X = .int .i64 j ∧ OutS bo wr (dd (q ++ (p.drop k).take j)) ∧ Below w.heap.size w wr) (fun X _ => N - (intOf X).toNat)
          case atStart => exact ⟨0, by omega, rfl, by rw [List.take_zero, List.append_nil]; exact HO.out, bw9⟩
          case round =>
            clear HO
            obtain ⟨j, hj, rfl, hO, bw⟩ := hrel
            have hdl := dd_len (q ++ (p.drop k).take j)
            have hdl2 : (q ++ (p.drop k).take j).length ≤ 5000 := by rw [List.length_append]; simp; omega
            by_cases hjl : j < N
            · obtain ⟨ab', off', s, e, _, hs, d0, d1⟩ := Lst.two (HH.out.below bw) (show k + j < p.length by omega)
              injection e with e
              injection e with e1 e2
              subst e1 e2
              have e3 : off + (k + j) * 2 = off + k * 2 + j * 2 := by omega
              rw [e3] at d0 d1
              have HN2 : Hid (q ++ (p.drop k).take (j + 1) = q ++ (p.drop k).take j ++ [(s.1, s.2)]) := by
                show _ = _
                have : (p.drop k)[j]? = some s := by rw [List.getElem?_drop]; exact hs
                rw [take_snoc_some this, ← List.append_assoc]
              clear hs e3
              go_wp2_with fail
              refine (put_any bo _ s.1 s.2 _ (hO.below ((Below.refl _ _).alloc (Nat.le_refl _) _)) (by omega)).mono ?_
              rw [← dd_snoc, ← HN2.out]
              rintro e w11 ⟨rfl, ho11, hb11⟩
              have bw11 : Below w.heap.size w w11 := (bw.alloc bw.size _).trans (hb11.mono hbw)
              clear hO hb11 d0 d1
              go_wp2_with fail
              exact ⟨⟨j + 1, by omega, by go_num, ho11, bw11⟩, by simp [intOf]; omega⟩
            · have HD : Hid (q ++ (p.drop k).take j = q ++ p.drop k) := by show _ = _; rw [List.take_of_length_le (by simp; omega)]
              rw [HD.out, HE.out] at hO
              go_wp2_with fail
              go_meet
              exact ⟨hO, by rw [← HE.out]; have := dd_len (q ++ p.drop k); simp only [List.length_append, List.length_drop] at this; omega, bw⟩
      case rest =>
        obtain ⟨⟨A9, c9, hk9, ho9, hne9⟩, hlo, bw10⟩ := hcut
        have d0 : wc.cell? ⟨bo, 0, none⟩ = some (.slice A9 (out p a b n).length c9) := hk9.cell 0
        have HCk := Lib.hid (check_any A9 _ c9 _ wc (ho9.lst layS) (by simp [maxLen]; omega))
        obtain ⟨o, ho⟩ : ∃ o, o = out p a b n := ⟨_, rfl⟩
        rw [← ho] at HCk hk9 ho9 d0 HA hlo
        clear ho hend
        cases hco : chkB o
        · rw [chkE_no hco] at HCk
          rw [hco, if_pos rfl] at HA
          clear hco
          go_wp2_with fail
          refine HCk.out.mono ?_
          rintro e w11 ⟨rfl, b11⟩
          go_wp2_with fail
          rw [Exit.noGoto_ret]
          go_ret2
          rw [HA.out]
          exact ⟨none, 0, rfl, SOwn.nil _ _ _ _, below_step bw10 b11⟩
        · rw [chkE_yes hco] at HCk
          rw [hco, if_neg (by simp)] at HA
          clear hco
          go_wp2_with fail
          refine HCk.out.mono ?_
          rintro e w11 ⟨rfl, b11⟩
          have d1 : w11.cell? ⟨bo, 0, none⟩ = some (.slice A9 o.length c9) := (hk9.below b11 hk9.lt).cell 0
          go_wp2_with fail
          rw [Exit.noGoto_ret]
          go_ret2
          rw [HA.out]
          exact ⟨A9, c9, rfl, (ho9.mono (by omega)).below b11, below_step bw10 b11⟩
end Go.Proofs.Ythfnmighhoighaa.ProfW
