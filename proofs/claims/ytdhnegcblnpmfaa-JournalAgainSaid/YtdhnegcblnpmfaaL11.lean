/-
  Merged: A journal in memory; contracts: (*Journal).half, open, Left, Life, Count.; Contract: (*Journal).lay.; Contracts: (*Journal).begin, Append, Turn.; A store that no call made: what each call answers; the walk of StoreNobody.; Contracts: journal.Open, journal.Format.
-/
import Derived.Test.YtdhnegcblnpmfaaL9
import Derived.Test.YtdhnegcblnpmfaaL10
import Derived.Test.YtdhnegcblnpmfaaL4
import Derived.Test.YtdhnegcblnpmfaaL5
import Derived.BigRegion
import Derived.Deep.DeepCutAuto
import Derived.StillTailTactics
namespace Go.Proofs.Ytdhnegcblnpmfaa.JrnW
open Go.RowKit Mem Jrn PackW FrameW
set_option linter.unusedVariables false
set_option linter.unusedSimpArgs false

abbrev jC (area life count next stamp : Int) (g : Nat) (cl : Bool) : Array Value := #[.int .i64 area, .int .i64 life, .int .i64 count, .int .i64 next, .int .i64 stamp, .pointer (some ⟨g, 0, none⟩), .bool cl]
theorem blk7' {w : World} {g : Nat} {t : TypeId} {v0 v1 v2 v3 v4 v5 v6 : Value} (h : Blk w g t #[v0, v1, v2, v3, v4, v5, v6]) : w.cell? ⟨g, 0, none⟩ = some v0 ∧ w.cell? ⟨g, 1, none⟩ = some v1 ∧ w.cell? ⟨g, 2, none⟩ = some v2 ∧ w.cell? ⟨g, 3, none⟩ = some v3 ∧ w.cell? ⟨g, 4, none⟩ = some v4 ∧ w.cell? ⟨g, 5, none⟩ = some v5 ∧ w.cell? ⟨g, 6, none⟩ = some v6 := ⟨h.cell 0, h.cell 1, h.cell 2, h.cell 3, h.cell 4, h.cell 5, h.cell 6⟩
theorem quiet_eq {P : Program} {f : FuncId} {args : Array Value} {w : World} {n : Nat} {v : Value} (h : Calls P f args (w.drewN n) fun e w' => e = .returned v ∧ w.drewN n = w') : Calls P f args (w.drewN n) fun e w'' => e = .returned v ∧ ∃ m, w'' = w.drewN m :=
  h.mono fun e w'' h => ⟨h.1, n, h.2.symm⟩
section
variable (jb base g : Nat) (s : Stor.Sto) (area life count next stamp : Int) (w : World)
theorem half_any (cl : Bool) (h : Blk w jb 64 (jC area life count next stamp g cl)) (hs : StorW.Is w base g s) (hok : s.Ok) :
    Calls Try.prog 51 #[.pointer (some ⟨jb, 0, none⟩)] w fun e w' => e = .returned (.int .i64 ((s.bs.length / 2 : Nat) : Int)) ∧ w = w' := by
  have h2 : Int.tdiv (s.bs.length : Int) 2 = ((s.bs.length / 2 : Nat) : Int) := rfl
  have HS := Lib.hid (StorW.size_any base g s w hs hok)
  have hf := hok.few
  obtain ⟨x0, x1, x2, x3, x4, x5, x6⟩ := blk7' h
  go_enter Try.func51, Try.ntmps51
  go_wp2_with fail
  refine HS.out.mono ?_
  rintro e w1 ⟨rfl, rfl⟩
  go_wp2_with fail
  go_ret
  exact ⟨rfl, rfl⟩
theorem open_ok (h : Blk w jb 64 (jC area life count next stamp g false)) :
    Calls Try.prog 48 #[.pointer (some ⟨jb, 0, none⟩)] w fun e w' => e = .returned (.int .i64 0) ∧ w = w' := by
  obtain ⟨x0, x1, x2, x3, x4, x5, x6⟩ := blk7' h
  go_enter Try.func48, Try.ntmps48
  go_wp2_with fail
  go_ret
  exact ⟨rfl, rfl⟩
theorem open_nil : Calls Try.prog 48 #[.pointer none] w fun e w' => e = .returned (.int .i64 1) ∧ w = w' := by
  go_enter Try.func48, Try.ntmps48
  go_wp2_with fail
  go_ret
  exact ⟨rfl, rfl⟩
theorem open_zero (v0 v1 v2 v3 v4 v6 : Value) (h : Blk w jb 64 #[v0, v1, v2, v3, v4, .pointer none, v6]) : Calls Try.prog 48 #[.pointer (some ⟨jb, 0, none⟩)] w fun e w' => e = .returned (.int .i64 1) ∧ w = w' := by
  obtain ⟨x0, x1, x2, x3, x4, x5, x6⟩ := blk7' h
  go_enter Try.func48, Try.ntmps48
  go_wp2_with fail
  go_ret
  exact ⟨rfl, rfl⟩
theorem left_ok (a nx : Nat) (h : Blk w jb 64 (jC a life count nx stamp g false)) (hs : StorW.Is w base g s) (hok : s.Ok) (ha : a < 2) (hn : (nx : Int) ≤ 1000) :
    Calls Try.prog 33 #[.pointer (some ⟨jb, 0, none⟩)] w fun e w' => e = .returned (.int .i64 (((a + 1) * (s.bs.length / 2) : Nat) - nx)) ∧ ∃ m, w' = w.drewN m := by
  have HO := Lib.hid (open_ok jb g a life count nx stamp w h)
  have HH := Lib.hid fun n => half_any jb base g s a life count nx stamp (w.drewN n) false (h.drewN n) (hs.drewN n) hok
  have hf := hok.few
  obtain ⟨H, hH⟩ : ∃ H, H = s.bs.length / 2 := ⟨_, rfl⟩
  have hH2 : H ≤ 200 := by omega
  rw [← hH] at HH ⊢
  have m1 : (a + 1) * H ≤ 2 * H := Nat.mul_le_mul_right _ (by omega)
  have c1 : (((a + 1) * H : Nat) : Int) = ((a : Int) + 1) * (H : Int) := by simp
  have w1 : IntKind.i64.wrap (((a : Int) + 1) * (H : Int)) = (((a + 1) * H : Nat) : Int) := by rw [← c1]; exact IntWalk.i64_in _ (by omega)
  obtain ⟨E, hE⟩ : ∃ E, E = (a + 1) * H := ⟨_, rfl⟩
  rw [← hE] at w1 m1 ⊢
  obtain ⟨x0, x1, x2, x3, x4, x5, x6⟩ := blk7' h
  clear hE c1 hH hs
  go_enter Try.func33, Try.ntmps33
  go_wp2_with fail
  refine HO.out.mono ?_
  rintro e w1 ⟨rfl, hw⟩
  subst hw
  go_wp2_with fail
  go_quiet ((go_at_call 51; exact quiet_eq (HH.out _)))
  go_wp2_with fail
  go_ret
  exact ⟨rfl, nq, rfl⟩
theorem life_ok (h : Blk w jb 64 (jC area life count next stamp g false)) :
    Calls Try.prog 34 #[.pointer (some ⟨jb, 0, none⟩)] w fun e w' => e = .returned (.int .i64 life) ∧ w = w' := by
  have HO := Lib.hid (open_ok jb g area life count next stamp w h)
  obtain ⟨x0, x1, x2, x3, x4, x5, x6⟩ := blk7' h
  go_enter Try.func34, Try.ntmps34
  go_wp2_with fail
  refine HO.out.mono ?_
  rintro e w1 ⟨rfl, hw⟩
  subst hw
  go_wp2_with fail
  go_ret
  exact ⟨rfl, rfl⟩
theorem count_ok (h : Blk w jb 64 (jC area life count next stamp g false)) :
    Calls Try.prog 35 #[.pointer (some ⟨jb, 0, none⟩)] w fun e w' => e = .returned (.int .i64 count) ∧ w = w' := by
  have HO := Lib.hid (open_ok jb g area life count next stamp w h)
  obtain ⟨x0, x1, x2, x3, x4, x5, x6⟩ := blk7' h
  go_enter Try.func35, Try.ntmps35
  go_wp2_with fail
  refine HO.out.mono ?_
  rintro e w1 ⟨rfl, hw⟩
  subst hw
  go_wp2_with fail
  go_ret
  exact ⟨rfl, rfl⟩
end
/-- a pointer at which no journal stands -/
def None' (w : World) (p : Value) : Prop := p = .pointer none ∨ ∃ jb v0 v1 v2 v3 v4 v6, p = .pointer (some ⟨jb, 0, none⟩) ∧ Blk w jb 64 #[v0, v1, v2, v3, v4, .pointer none, v6]
theorem open_none {w : World} {p : Value} (h : None' w p) : Calls Try.prog 48 #[p] w fun e w' => e = .returned (.int .i64 1) ∧ w = w' := by
  rcases h with rfl | ⟨jb, v0, v1, v2, v3, v4, v6, rfl, h⟩
  · exact open_nil w
  · exact open_zero jb w v0 v1 v2 v3 v4 v6 h
theorem left_none {w : World} {p : Value} (h : None' w p) : Calls Try.prog 33 #[p] w fun e w' => e = .returned (.int .i64 0) ∧ w = w' := by
  have HO := Lib.hid (open_none h)
  go_enter Try.func33, Try.ntmps33
  go_wp2_with fail
  refine HO.out.mono ?_
  rintro e w1 ⟨rfl, hw⟩
  subst hw
  go_wp2_with fail
  go_ret
  exact ⟨rfl, rfl⟩
theorem life_none {w : World} {p : Value} (h : None' w p) : Calls Try.prog 34 #[p] w fun e w' => e = .returned (.int .i64 0) ∧ w = w' := by
  have HO := Lib.hid (open_none h)
  go_enter Try.func34, Try.ntmps34
  go_wp2_with fail
  refine HO.out.mono ?_
  rintro e w1 ⟨rfl, hw⟩
  subst hw
  go_wp2_with fail
  go_ret
  exact ⟨rfl, rfl⟩
theorem count_none {w : World} {p : Value} (h : None' w p) : Calls Try.prog 35 #[p] w fun e w' => e = .returned (.int .i64 0) ∧ w = w' := by
  have HO := Lib.hid (open_none h)
  go_enter Try.func35, Try.ntmps35
  go_wp2_with fail
  refine HO.out.mono ?_
  rintro e w1 ⟨rfl, hw⟩
  subst hw
  go_wp2_with fail
  go_ret
  exact ⟨rfl, rfl⟩
theorem append_none {w : World} {p : Value} (s : ByteArray) (h : None' w p) : Calls Try.prog 31 #[p, .string s] w fun e w' => e = .returned (.int .i64 1) ∧ w = w' := by
  have HO := Lib.hid (open_none h)
  go_enter Try.func31, Try.ntmps31
  go_wp2_with fail
  refine HO.out.mono ?_
  rintro e w1 ⟨rfl, hw⟩
  subst hw
  go_wp2_with fail
  go_ret
  exact ⟨rfl, rfl⟩
theorem turn_none {w : World} {p : Value} (s : ByteArray) (h : None' w p) : Calls Try.prog 32 #[p, .string s] w fun e w' => e = .returned (.int .i64 1) ∧ w = w' := by
  have HO := Lib.hid (open_none h)
  go_enter Try.func32, Try.ntmps32
  go_wp2_with fail
  refine HO.out.mono ?_
  rintro e w1 ⟨rfl, hw⟩
  subst hw
  go_wp2_with fail
  go_ret
  exact ⟨rfl, rfl⟩
end Go.Proofs.Ytdhnegcblnpmfaa.JrnW

namespace Go.Proofs.Ytdhnegcblnpmfaa.JrnW
open Go.RowKit Mem Jrn PackW FrameW
set_option linter.unusedVariables false
set_option linter.unusedSimpArgs false

/-- blocks that are no store, no bytes and no journal stay -/
def KeepJ (w w' : World) : Prop := ∀ (k : Nat) (cs : Array Value) (t : TypeId) (fr : Nat × Nat), t ≠ 50 → t ≠ 5 → t ≠ 64 → w.heap[k]? = some (.cells cs t fr) → w'.heap[k]? = some (.cells cs t fr)
theorem KeepJ.refl (w : World) : KeepJ w w := fun _ _ _ _ _ _ _ h => h
theorem KeepJ.trans {a b c : World} (h : KeepJ a b) (k : KeepJ b c) : KeepJ a c := fun n cs t fr h1 h2 h3 h4 => k n cs t fr h1 h2 h3 (h n cs t fr h1 h2 h3 h4)
theorem keepJ_below {w w' : World} (h : Below w.heap.size w w') : KeepJ w w' := fun k cs t fr _ _ _ hk => (h.block k (lt_of_block hk)).trans hk
theorem keepJ_s {w w' : World} (h : StorW.KeepS w w') : KeepJ w w' := fun k cs t fr h1 h2 _ hk => h k cs t fr h1 h2 hk
theorem keepJ_set {w : World} {jb : Nat} {cs : Array Value} (h : Blk w jb 64 cs) (i : Nat) (v : Value) : KeepJ w (w.setCell ⟨jb, i, none⟩ v) := by
  intro k c t fr h1 h2 h3 hk
  have hne : k ≠ jb := by
    rintro rfl
    rw [show w.heap[k]? = _ from h] at hk
    injection hk with hk
    injection hk with _ hk
    exact h3 hk.symm
  rw [Below.heap_setCell _ _ _ _ hne]
  exact hk
theorem is_far {w : World} {base g jb : Nat} {s : Stor.Sto} {cs : Array Value} (h : StorW.Is w base g s) (hb : Blk w jb 64 cs) (i : Nat) (v : Value) : StorW.Is (w.setCell ⟨jb, i, none⟩ v) base g s := by
  obtain ⟨hs, A, c, h⟩ := h
  have oth : ∀ k, k ≠ jb → (w.setCell ⟨jb, i, none⟩ v).heap[k]? = w.heap[k]? := fun k hk => Below.heap_setCell _ _ _ _ hk
  refine ⟨hs, A, c, h.gb, (oth g (StorW.blk_ne h.blk hb (by decide))).trans h.blk, ⟨h.own.1, ?_⟩, h.len, h.nodup, fun j x b h1 h2 => ?_⟩
  · have hne := StorW.own_ne h.own hb (by decide)
    rcases h.own.2 with h2 | ⟨g', cap, cur, hv', hg', hh, r⟩
    · exact .inl h2
    · refine .inr ⟨g', cap, cur, hv', hg', (oth g' ?_).trans hh, r⟩
      rintro rfl
      exact hne (by rw [hv']; rfl)
  · obtain ⟨h3, h4⟩ := h.data j x b h1 h2
    exact ⟨h3, (oth x (StorW.blk_ne h4 hb (by decide))).trans h4⟩
def layTo (e : Int) (p : Nat) : Int := if e = 0 then (p : Int) else 0
theorem layTo_yes (p : Nat) : layTo 0 p = p := rfl
theorem layTo_no {e : Int} (h : e ≠ 0) (p : Nat) : layTo e p = 0 := if_neg h
structure LayOut (jb base g : Nat) (area life count next : Int) (r : Stor.Sto × Int) (w w' : World) (st : Int) (at_ n : Nat) (e : Ending) : Prop where
  res : e = .returned (.tuple #[(.int .i64 (layTo r.2 (at_ + n))), .int .i64 r.2])
  blk : ∃ st', Blk w' jb 64 (jC area life count next st' g (decide (r.2 ≠ 0))) ∧ (r.2 = 0 → st' = st + n)
  is : StorW.Is w' base g r.1
  bel : Below base w w'
  keep : KeepJ w w'
structure LayRel (jb base g : Nat) (area life count next : Int) (s : Stor.Sto) (st : Int) (at_ : Nat) (fr : List UInt8) (w : World) (i : Nat) (wr : World) : Prop where
  le : i ≤ parts fr
  ok : (layS s at_ st fr i).2 = 0
  blk : Blk wr jb 64 (jC area life count next (st + i) g false)
  is : StorW.Is wr base g (layS s at_ st fr i).1
  bel : Below base w wr
  keep : KeepJ w wr
theorem piece_last {fr : List UInt8} {i nn : Nat} (h : 240 * i < fr.length) (hs : (str (fr.drop (240 * i))).size = fr.length - 240 * i) (hn : nn ≤ (str (fr.drop (240 * i))).size) (hn2 : nn ≤ 240) (h2 : nn = 240 ∨ nn = (str (fr.drop (240 * i))).size) : ((nn : Int) == ((str (fr.drop (240 * i))).size : Int)) = decide (fr.length ≤ 240 * (i + 1)) := by
  rw [hs] at h2 hn ⊢
  rw [Bool.eq_iff_iff]
  simp only [beq_iff_eq, decide_eq_true_eq]
  omega
theorem piece_first {fr : List UInt8} {i nn : Nat} (hs : (str (fr.drop (240 * i))).size = fr.length - 240 * i) (hn2 : nn ≤ 240) (h2 : nn = 240 ∨ nn = (str (fr.drop (240 * i))).size) : (str (fr.drop (240 * i))).extract 0 nn = str ((fr.drop (240 * i)).take 240) := by
  rw [extract_str, str_data, List.drop_zero, Nat.sub_zero]
  rcases h2 with rfl | h2
  · rfl
  · rw [hs] at h2
    rw [List.take_of_length_le (by simp; omega), List.take_of_length_le (by simp; omega)]
theorem piece_rest {fr : List UInt8} {i nn : Nat} (hs : (str (fr.drop (240 * i))).size = fr.length - 240 * i) (hn2 : nn ≤ 240) (h2 : nn = 240 ∨ nn = (str (fr.drop (240 * i))).size) : (str (fr.drop (240 * i))).extract nn (str (fr.drop (240 * i))).size = str (fr.drop (240 * (i + 1))) := by
  rw [extract_str, str_data]
  congr 1
  rcases h2 with rfl | h2
  · rw [List.take_of_length_le (by rw [hs]; simp; omega), List.drop_drop, show 240 * i + 240 = 240 * (i + 1) by omega]
  · rw [hs] at h2
    have e1 : (fr.drop (240 * i)).drop nn = [] := List.drop_eq_nil_of_le (by simp; omega)
    have e2 : fr.drop (240 * (i + 1)) = [] := List.drop_eq_nil_of_le (by omega)
    rw [e1, e2, List.take_nil]
def CutP (V : World) (base g : Nat) (r : Stor.Sto × Int) (Z : Value) (wx : World) : Prop := Z = .int .i64 r.2 ∧ ∃ w0, Below V.heap.size V w0 ∧ StorW.Is wx base g r.1 ∧ Below base w0 wx ∧ StorW.KeepS w0 wx
set_option maxHeartbeats 8000000 in
set_option maxRecDepth 100000 in
theorem lay_any (jb base g at_ : Nat) (s : Stor.Sto) (st area life count next lf sq : Int) (body : ByteArray) (w : World) (hB : Blk w jb 64 (jC area life count next st g false)) (hjb : base ≤ jb) (hS : StorW.Is w base g s) (hok : s.Ok) (hwr : s.wr < 900000)
    (l0 : 0 ≤ lf) (l1 : lf < 4294967296) (q0 : 0 ≤ sq) (q1 : sq < 4294967296) (hn : need body.data.toList ≤ 255) (hat : at_ + parts (Frm.put lf sq body.data.toList).1 ≤ s.bs.length) (h0 : 1 ≤ st) (h1 : st + 255 < 4294967296) :
    Calls Try.prog 50 #[.pointer (some ⟨jb, 0, none⟩), .int .i64 at_, .int .i64 lf, .int .i64 sq, .string body] w (fun e w' => LayOut jb base g area life count next (layS s at_ st (Frm.put lf sq body.data.toList).1 (parts (Frm.put lf sq body.data.toList).1)) w w' st at_ (parts (Frm.put lf sq body.data.toList).1) e) := by
  have hbd : body.data.toList.length = body.size := by simp
  have hbs : body.size ≤ 100000 := by unfold need at hn; omega
  obtain ⟨hfr, hpn, hp0⟩ := put_framed l0 l1 q0 q1 hn
  have HP := Lib.hid (put_any lf sq body w (by unfold maxLen; omega) ⟨by omega, by omega⟩ ⟨by omega, by omega⟩)
  obtain ⟨p, hp⟩ : ∃ p, p = Frm.put lf sq body.data.toList := ⟨_, rfl⟩
  rw [← hp] at HP hfr hpn hp0 hat ⊢
  obtain ⟨fr, pe⟩ := p
  simp only at HP hfr hpn hp0 hat ⊢
  subst hp0
  have hfew := hfr.few
  have hbsw := hok.few
  have HOk := Lib.hid fun i => layS_ok at_ st fr hok i
  have HWr := Lib.hid fun i => layS_wr s at_ st fr i
  have hS' := Lib.hid hS
  have hB' := Lib.hid hB
  obtain ⟨x0, x1, x2, x3, x4, x5, x6⟩ := blk7' hB
  clear hp hfr hn hpn
  go_enter Try.func50, Try.ntmps50
  go_wp2_with fail
  refine HP.out.mono ?_
  rintro e w1 ⟨rfl, b1⟩
  have hB1 := hB.below b1 hB.lt
  have hS1 := hS.below b1
  have hb1 : Below base w w1 := b1.mono (Nat.le_trans hjb (Nat.le_of_lt hB.lt))
  have hk1 := keepJ_below b1
  clear x0 x1 x2 x3 x4 x5 x6
  obtain ⟨x0, x1, x2, x3, x4, x5, x6⟩ := blk7' hB1
  go_wp2_with fail
  go_loopw [1, 12, 15] (fun a b p wr => ∃ i, a = .int .i64 ((at_ + i : Nat) : Int) ∧ b = .string (str (fr.drop (240 * i))) ∧ p = .int .i64 (i : Int) ∧ LayRel jb base g area life count next s st at_ fr w i wr)
    (fun _ _ p _ => parts fr - (intOf p).toNat)
  case atStart => exact ⟨0, by simp, by simp, rfl, ⟨by omega, rfl, by simpa using hB1, hS1, hb1, hk1⟩⟩
  case round =>
    obtain ⟨i, rfl, rfl, rfl, hrel⟩ := hrel
    have hi := hrel.le
    by_cases hlt : i < parts fr
    case neg =>
      obtain rfl : i = parts fr := by omega
      have hnil : fr.drop (240 * parts fr) = [] := List.drop_eq_nil_of_le (by unfold parts; omega)
      rw [hnil]
      have hse := str_nil
      go_wp2_with fail
      go_ret2
      exact ⟨by rw [hrel.ok, layTo_yes]; rfl, ⟨_, by rw [hrel.ok]; exact hrel.blk, fun _ => rfl⟩, hrel.is, hrel.bel, hrel.keep⟩
    · have hdl : (fr.drop (240 * i)).length = fr.length - 240 * i := by simp
      have hdp : 240 * i < fr.length := by unfold parts at hlt; omega
      have hne : fr.drop (240 * i) ≠ [] := fun e => by rw [e] at hdl; simp at hdl; omega
      have e1 := str_nonempty hne
      have e2 := str_nonnil hne
      have hsz : (str (fr.drop (240 * i))).size = fr.length - 240 * i := by rw [str_size, hdl]
      obtain ⟨nn, hnn, hn1, hn2, hn3⟩ : ∃ nn : Nat, min ((str (fr.drop (240 * i))).size : Int) 240 = (nn : Int) ∧ nn ≤ (str (fr.drop (240 * i))).size ∧ nn ≤ 240 ∧ (nn = 240 ∨ nn = (str (fr.drop (240 * i))).size) := by
        rcases Nat.le_total (str (fr.drop (240 * i))).size 240 with h | h
        · exact ⟨(str (fr.drop (240 * i))).size, by omega, Nat.le_refl _, h, .inr rfl⟩
        · exact ⟨240, by omega, h, Nat.le_refl _, .inl rfl⟩
      have hmx : fr.length ≤ 240 * 255 := by unfold parts at hfew; omega
      have HSz := Lib.hid hsz
      have hs1 : (str (fr.drop (240 * i))).size ≤ 61200 := by omega
      have c1 : (0 : Int) ≤ (nn : Int) := by omega
      have c2 : (nn : Int) ≤ ((str (fr.drop (240 * i))).size : Int) := by omega
      have HL := Lib.hid (piece_last hdp hsz hn1 hn2 hn3)
      have HF := Lib.hid (piece_first hsz hn2 hn3)
      have HR := Lib.hid (piece_rest hsz hn2 hn3)
      clear hdl hdp
      have hrb := hrel.blk
      have f4 := hrb.frozen 4
      have f6 := hrb.frozen 6
      obtain ⟨y0, y1, y2, y3, y4, y5, y6⟩ := blk7' hrb
      have y4' : ((wr.alloc (.cells bk0C 100)).drew).cell? ⟨jb, 4, none⟩ = some (.int .i64 (st + i)) := ((hrb.alloc (.cells bk0C 100)).drew).cell 4
      have y4'' : (wr.alloc (.cells bk0C 100)).cell? ⟨jb, 4, none⟩ = some (.int .i64 (st + i)) := (hrb.alloc (.cells bk0C 100)).cell 4
      clear hsz
      go_wp2_with fail
      go_region
      rw [HL.out, HF.out]
      obtain ⟨V, hV⟩ : ∃ V, V = (wr.alloc (.cells (bkC (pb st fr i)) 100)).drew := ⟨_, rfl⟩
      have bV : Below wr.heap.size wr V := by rw [hV]; exact ((Below.refl _ _).alloc (Nat.le_refl _) _).drew
      have kV : Blk V wr.heap.size 100 (bkC (pb st fr i)) := by rw [hV]; exact (Blk.new _ _ _).drew
      have hV' : (wr.alloc (.cells #[.int .i64 (st + i), .int .i64 i, .int .i64 st, .bool (decide (fr.length ≤ 240 * (i + 1))), .string (str ((fr.drop (240 * i)).take 240))] 100)).drew = V := hV.symm
      rw [hV']
      clear hV hV' y4' y4''
      have hrV := hrb.below bV hrb.lt
      have hIV := hrel.is.below bV
      have hlo : layS s at_ st fr (i + 1) = Stor.write (layS s at_ st fr i).1 ((at_ + i : Nat) : Int) (writeB (pb st fr i)) := layS_next hrel.ok
      have hwlen : (writeB (pb st fr i)).length = 256 := writeB_len (by simp [pb]; omega)
      have HWd := Lib.hid fun wx => written_any (pb st fr i) wx (pb_fine (by omega) h1 (by omega))
      have hwrb := HWr.out i
      have HWt : Hid (∀ wx, Below V.heap.size V wx → Calls Try.prog 14 #[.pointer (some ⟨g, 0, none⟩), .int .i64 ((at_ + i : Nat) : Int), .string (str (writeB (pb st fr i)))] wx (StorW.IsPost base g (layS s at_ st fr (i + 1)).1 (layS s at_ st fr (i + 1)).2 wx)) := fun wx hb => by
        have := StorW.write_any base g (layS s at_ st fr i).1 ((at_ + i : Nat) : Int) (str (writeB (pb st fr i))) wx (hIV.below hb) (HOk.out i) (by omega) (by rw [str_size, hwlen]; unfold maxLen; omega)
        rw [str_data, ← hlo] at this
        exact this
      have HSw : Hid (∀ wx, Below V.heap.size V wx → (wx.cell? ⟨jb, 5, none⟩ = some (.pointer (some ⟨g, 0, none⟩)) ∧ wx.cell? ⟨wr.heap.size, 0, none⟩ = some (.int .i64 (st + i)) ∧ wx.cell? ⟨wr.heap.size, 1, none⟩ = some (.int .i64 i) ∧ wx.cell? ⟨wr.heap.size, 2, none⟩ = some (.int .i64 st) ∧ wx.cell? ⟨wr.heap.size, 3, none⟩ = some (.bool (decide (fr.length ≤ 240 * (i + 1)))) ∧ wx.cell? ⟨wr.heap.size, 4, none⟩ = some (.string (str ((fr.drop (240 * i)).take 240))))) := fun wx hb => by
        have k1 := kV.below hb kV.lt
        exact ⟨(hrV.below hb hrV.lt).cell 5, k1.cell 0, k1.cell 1, k1.cell 2, k1.cell 3, k1.cell 4⟩
      have HSk : Hid (∀ wx w3, Below V.heap.size V wx → StorW.KeepS wx w3 → (w3.cell? ⟨jb, 5, none⟩ = some (.pointer (some ⟨g, 0, none⟩)) ∧ w3.cell? ⟨wr.heap.size, 0, none⟩ = some (.int .i64 (st + i)) ∧ w3.cell? ⟨wr.heap.size, 1, none⟩ = some (.int .i64 i) ∧ w3.cell? ⟨wr.heap.size, 2, none⟩ = some (.int .i64 st) ∧ w3.cell? ⟨wr.heap.size, 3, none⟩ = some (.bool (decide (fr.length ≤ 240 * (i + 1)))) ∧ w3.cell? ⟨wr.heap.size, 4, none⟩ = some (.string (str ((fr.drop (240 * i)).take 240))))) := fun wx w3 hb hk => by
        have k1 := hk.blk (kV.below hb kV.lt) (by decide) (by decide)
        exact ⟨(hk.blk (hrV.below hb hrV.lt) (by decide) (by decide)).cell 5, k1.cell 0, k1.cell 1, k1.cell 2, k1.cell 3, k1.cell 4⟩
      have HRl := Lib.hid hrel
      have HbV := Lib.hid bV
      have HbW : Hid (base ≤ wr.heap.size) := Nat.le_trans hjb (Nat.le_of_lt hrb.lt)
      have HbX : Hid (base ≤ V.heap.size) := Nat.le_trans hjb (Nat.le_of_lt hrV.lt)
      have bRef : Below V.heap.size V V := Below.refl _ _
      have bDr : Below V.heap.size V V.drew := (Below.refl _ _).drew
      obtain ⟨z0, z1, z2, z3, z4, z5, z6⟩ := blk7' hrV
      obtain ⟨v0, v1, v2, v3, v4⟩ := blk5' kV
      have q4 := hrV.frozen 4
      clear hrel hrb y0 y1 y2 y3 y4 y5 y6 f4 f6 bV hlo
      go_upto_region 11 with fail
      rw [HR.out]
      go_cut [18] (fun Z wx => CutP V base g (layS s at_ st fr (i + 1)) Z wx)
      case first =>
        go_region_held3 (fun w' => w'.cell? ⟨jb, 5, none⟩ = some (.pointer (some ⟨g, 0, none⟩)) ∧ w'.cell? ⟨wr.heap.size, 0, none⟩ = some (.int .i64 (st + i)) ∧ w'.cell? ⟨wr.heap.size, 1, none⟩ = some (.int .i64 i) ∧ w'.cell? ⟨wr.heap.size, 2, none⟩ = some (.int .i64 st) ∧ w'.cell? ⟨wr.heap.size, 3, none⟩ = some (.bool (decide (fr.length ≤ 240 * (i + 1)))) ∧ w'.cell? ⟨wr.heap.size, 4, none⟩ = some (.string (str ((fr.drop (240 * i)).take 240))))
          (first | with_reducible exact HSw.out _ bRef | with_reducible exact HSw.out _ bDr | with_reducible exact HSw.out _ b2 | with_reducible exact HSk.out _ _ b2 k3)
          (first
            | (go_at_call 57; refine (HWd.out _).mono ?_; rintro e w2 ⟨rfl, d2⟩; have b2 : Below V.heap.size V w2 := below_step bDr d2)
            | (go_at_call 14; refine (HWt.out _ b2).mono ?_; rintro e w3 ⟨rfl, i3, d3, k3⟩))
        all_goals go_wp2_with fail
        all_goals go_meet
        all_goals exact ⟨rfl, w2, b2, i3, d3, k3⟩
      case rest =>
        obtain ⟨rfl, w0, c1, c2, c3, c4⟩ := hcut
        have hJ2 := c4.blk (hrV.below c1 hrV.lt) (by decide) (by decide)
        have hbx : Below base w wc := (HRl.out.bel.trans (HbV.out.mono HbW.out)).trans ((c1.mono HbX.out).trans c3)
        have hkx : KeepJ w wc := ((HRl.out.keep.trans (keepJ_below HbV.out)).trans (keepJ_below c1)).trans (keepJ_s c4)
        have HIs := Lib.hid c2
        have HBx := Lib.hid hbx
        have HKx := Lib.hid hkx
        have HJ2 := Lib.hid hJ2
        obtain ⟨y0, y1, y2, y3, y4, y5, y6⟩ := blk7' hJ2
        have g4 := hJ2.frozen 4
        have g6 := hJ2.frozen 6
        obtain ⟨er, her⟩ : ∃ er, er = (layS s at_ st fr (i + 1)).2 := ⟨_, rfl⟩
        rw [← her]
        have HEr := Lib.hid her
        clear z0 z1 z2 z3 z4 z5 z6 v0 v1 v2 v3 v4 q4 c1 c2 c3 c4 hJ2 hbx hkx hrV hIV kV her
        by_cases he : er = 0
        case neg =>
          have e5 : (er != 0) = true := by simpa using he
          have hst : layS s at_ st fr (parts fr) = layS s at_ st fr (i + 1) := by
            have := layS_stop (s := s) (a := at_) (st := st) (fr := fr) (i := i + 1) (by rw [← HEr.out]; exact he) (parts fr - (i + 1))
            rwa [show i + 1 + (parts fr - (i + 1)) = parts fr by omega] at this
          have HSt := Lib.hid hst
          have HNe := Lib.hid he
          clear he hst
          go_wp2_with fail
          go_ret2
          rw [HSt.out]
          refine ⟨by rw [layTo_no (by rw [← HEr.out]; exact HNe.out), ← HEr.out]; rfl, ⟨st + i, ?_, fun h => absurd (HEr.out.trans h) HNe.out⟩, ?_, HBx.out.setCell (p := ⟨jb, 6, none⟩) hjb _, HKx.out.trans (keepJ_set HJ2.out 6 _)⟩
          · rw [show decide ((layS s at_ st fr (i + 1)).2 ≠ 0) = true from decide_eq_true (by rw [← HEr.out]; exact HNe.out)]
            exact HJ2.out.set 6 (.bool true)
          · exact is_far HIs.out HJ2.out 6 _
        case pos =>
          subst he
          have HNx := Lib.hid HEr.out.symm
          go_wp2_with fail
          refine ⟨⟨i + 1, by go_num, rfl, by go_num, ⟨by omega, HNx.out, ?_, is_far HIs.out HJ2.out 4 _, HBx.out.setCell (p := ⟨jb, 4, none⟩) hjb _, HKx.out.trans (keepJ_set HJ2.out 4 _)⟩⟩, by simp [intOf]; omega⟩
          have := HJ2.out.set 4 (.int .i64 (st + (i : Int) + 1))
          rw [show (((i + 1 : Nat) : Int)) = (i : Int) + 1 by omega, ← Int.add_assoc]
          exact this
end Go.Proofs.Ytdhnegcblnpmfaa.JrnW

namespace Go.Proofs.Ytdhnegcblnpmfaa.JrnW
open Go.RowKit Mem Jrn PackW FrameW
set_option linter.unusedVariables false
set_option linter.unusedSimpArgs false

/-- what a call that lays a record ends with: the error r.2; with none of it the journal's block is cs -/
structure DoneOut (jb base g : Nat) (r : Stor.Sto × Int) (cs : Array Value) (w : World) (e : Ending) (w' : World) : Prop where
  res : e = .returned (.int .i64 r.2)
  blk : r.2 = 0 → Blk w' jb 64 cs
  is : StorW.Is w' base g r.1
  bel : Below base w w'
  keep : KeepJ w w'
theorem KeepJ.drew {a b : World} (h : KeepJ a b) : KeepJ a b.drew := h
set_option maxHeartbeats 4000000 in
set_option maxRecDepth 100000 in
theorem begin_any (jb base g a' : Nat) (s : Stor.Sto) (st area life count next lf : Int) (body : ByteArray) (w : World) (hB : Blk w jb 64 (jC area life count next st g false)) (hjb : base ≤ jb) (hS : StorW.Is w base g s) (hok : s.Ok) (hwr : s.wr < 900000)
    (ha : a' < 2) (l0 : 0 ≤ lf) (l1 : lf < 4294967296) (hn : need body.data.toList ≤ 255) (hat : a' * (s.bs.length / 2) + parts (Frm.put lf 0 body.data.toList).1 ≤ s.bs.length) (h0 : 1 ≤ st) (h1 : st + 255 < 4294967296) :
    Calls Try.prog 52 #[.pointer (some ⟨jb, 0, none⟩), .int .i64 a', .int .i64 lf, .string body] w (fun e w' => DoneOut jb base g (layS s (a' * (s.bs.length / 2)) st (Frm.put lf 0 body.data.toList).1 (parts (Frm.put lf 0 body.data.toList).1))
      (jC a' lf 0 ((a' * (s.bs.length / 2) + parts (Frm.put lf 0 body.data.toList).1 : Nat) : Int) (st + parts (Frm.put lf 0 body.data.toList).1) g false) w e w') := by
  have hf := hok.few
  have HHf := Lib.hid fun w h hs => half_any jb base g s area life count next st w false h hs hok
  have HLy := Lib.hid (lay_any jb base g (a' * (s.bs.length / 2)) s st area life count next lf 0 body w hB hjb hS hok hwr l0 l1 (by omega) (by omega) hn hat h0 h1)
  obtain ⟨H, hH⟩ : ∃ H, H = s.bs.length / 2 := ⟨_, rfl⟩
  have hH2 : H ≤ 200 := by omega
  rw [← hH] at HHf HLy hat ⊢
  have m1 : a' * H ≤ 1 * H := Nat.mul_le_mul_right _ (by omega)
  have c1 : ((a' * H : Nat) : Int) = (a' : Int) * (H : Int) := by simp
  have w1 : IntKind.i64.wrap ((a' : Int) * (H : Int)) = ((a' * H : Nat) : Int) := by rw [← c1]; exact IntWalk.i64_in _ (by omega)
  obtain ⟨E, hE⟩ : ∃ E, E = a' * H := ⟨_, rfl⟩
  rw [← hE] at HLy hat w1 m1 ⊢
  obtain ⟨np, hnp⟩ : ∃ np, np = parts (Frm.put lf 0 body.data.toList).1 := ⟨_, rfl⟩
  rw [← hnp] at HLy hat ⊢
  obtain ⟨r, hr⟩ : ∃ r, r = layS s E st (Frm.put lf 0 body.data.toList).1 np := ⟨_, rfl⟩
  rw [← hr] at HLy ⊢
  have HBk := Lib.hid hB
  clear hr hnp hE c1 hH hn hat
  go_enter Try.func52, Try.ntmps52
  go_wp2_with fail
  refine (HHf.out _ HBk.out hS).mono ?_
  rintro e w1 ⟨rfl, hw⟩
  subst hw
  go_wp2_with fail
  refine HLy.out.mono ?_
  rintro e w1 ⟨rfl, hblk, his, hbel, hkeep⟩
  have HIs := Lib.hid his
  have HBl := Lib.hid hbel
  have HKp := Lib.hid hkeep
  obtain ⟨rs, re⟩ := r
  simp only at hblk HIs ⊢
  clear his hbel hkeep
  by_cases he : re = 0
  case neg =>
    have HNe := Lib.hid he
    have e5 : (re == 0) = false := by simpa using he
    rw [layTo_no he]
    clear he hblk
    go_wp2_with fail
    go_ret
    exact ⟨rfl, fun h => absurd h HNe.out, HIs.out, HBl.out, HKp.out⟩
  case pos =>
    subst he
    obtain ⟨st', hb, hst⟩ := hblk
    have hst := hst rfl
    subst hst
    rw [layTo_yes]
    have hb' : Blk w1 jb 64 (jC area life count next (st + np) g false) := hb
    have HB' := Lib.hid hb'
    obtain ⟨y0, y1, y2, y3, y4, y5, y6⟩ := blk7' hb'
    have g0 := hb'.frozen 0
    have g1 := hb'.frozen 1
    have g2 := hb'.frozen 2
    have g3 := hb'.frozen 3
    clear hb hb'
    go_wp2_with fail
    go_ret
    have k1 := HB'.out.set 0 (.int .i64 a')
    have k2 := k1.set 1 (.int .i64 lf)
    have k3 := k2.set 2 (.int .i64 0)
    have k4 := k3.set 3 (.int .i64 ((E + np : Nat) : Int))
    refine ⟨rfl, fun _ => k4, is_far (is_far (is_far (is_far HIs.out HB'.out 0 _) k1 1 _) k2 2 _) k3 3 _, ?_, (((HKp.out.trans (keepJ_set HB'.out 0 _)).trans (keepJ_set k1 1 _)).trans (keepJ_set k2 2 _)).trans (keepJ_set k3 3 _)⟩
    exact (((HBl.out.setCell (p := ⟨jb, 0, none⟩) hjb _).setCell (p := ⟨jb, 1, none⟩) hjb _).setCell (p := ⟨jb, 2, none⟩) hjb _).setCell (p := ⟨jb, 3, none⟩) hjb _
def LeftI (a nx n : Nat) : Int := (((a + 1) * (n / 2) : Nat) : Int) - nx
theorem append_no (jb base g a nx : Nat) (s : Stor.Sto) (st life count x : Int) (body : ByteArray) (w : World) (hB : Blk w jb 64 (jC a life count nx st g false)) (hS : StorW.Is w base g s) (hok : s.Ok) (ha : a < 2) (hx : nx ≤ 1000) (hb : body.size ≤ 1000000)
    (hf : fitsE (need body.data.toList) (LeftI a nx s.bs.length) = x) (hx0 : x ≠ 0) :
    Calls Try.prog 31 #[.pointer (some ⟨jb, 0, none⟩), .string body] w (fun e w' => e = .returned (.int .i64 x) ∧ ∃ m, w' = w.drewN m) := by
  have HO := Lib.hid (open_ok jb g a life count nx st w hB)
  have HL := Lib.hid (left_ok jb base g s life count st w a nx hB hS hok ha (by omega))
  have HF := Lib.hid fun wx => fits_any body (LeftI a nx s.bs.length) wx (by omega)
  rw [hf] at HF
  have HF' : Hid (LeftI a nx s.bs.length = (((a + 1) * (s.bs.length / 2) : Nat) : Int) - nx) := rfl
  rw [← HF'.out] at HL
  have e5 : (x != 0) = true := by simpa using hx0
  clear hB hS hok hf
  go_enter Try.func31, Try.ntmps31
  go_wp2_with fail
  refine HO.out.mono ?_
  rintro e w1 ⟨rfl, hw⟩
  subst hw
  go_wp2_with fail
  refine HL.out.mono ?_
  rintro e w1 ⟨rfl, m, hm⟩
  subst hm
  go_wp2_with fail
  refine (HF.out _).mono ?_
  rintro e w1 ⟨rfl, hw⟩
  subst hw
  go_wp2_with fail
  go_ret
  exact ⟨rfl, m, rfl⟩
def CutL (V : World) (jb base g : Nat) (area life count next : Int) (r : Stor.Sto × Int) (st : Int) (at_ n : Nat) (Z1 Z2 : Value) (wc : World) : Prop := Z1 = .int .i64 (layTo r.2 (at_ + n)) ∧ Z2 = .int .i64 r.2 ∧ ∃ e, LayOut jb base g area life count next r V wc st at_ n e
set_option maxHeartbeats 4000000 in
set_option maxRecDepth 100000 in
theorem append_yes (jb base g a nx : Nat) (s : Stor.Sto) (st life : Int) (cnt : Nat) (body : ByteArray) (w : World) (hB : Blk w jb 64 (jC a life cnt nx st g false)) (hjb : base ≤ jb) (hS : StorW.Is w base g s) (hok : s.Ok) (hwr : s.wr < 900000) (ha : a < 2) (hx : nx ≤ 1000) (hc : cnt ≤ 1000000) (hb : body.size ≤ 1000000)
    (l0 : 0 ≤ life) (l1 : life < 4294967296) (hn : need body.data.toList ≤ 255) (hf : fitsE (need body.data.toList) (LeftI a nx s.bs.length) = 0) (hat : nx + parts (Frm.put life ((cnt + 1 : Nat) : Int) body.data.toList).1 ≤ s.bs.length) (h0 : 1 ≤ st) (h1 : st + 255 < 4294967296) :
    Calls Try.prog 31 #[.pointer (some ⟨jb, 0, none⟩), .string body] w (fun e w' => DoneOut jb base g (layS s nx st (Frm.put life ((cnt + 1 : Nat) : Int) body.data.toList).1 (parts (Frm.put life ((cnt + 1 : Nat) : Int) body.data.toList).1))
      (jC a life ((cnt + 1 : Nat) : Int) ((nx + parts (Frm.put life ((cnt + 1 : Nat) : Int) body.data.toList).1 : Nat) : Int) (st + parts (Frm.put life ((cnt + 1 : Nat) : Int) body.data.toList).1) g false) w e w') := by
  have hbs := hok.few
  have HO := Lib.hid (open_ok jb g a life cnt nx st w hB)
  have HL := Lib.hid (left_ok jb base g s life cnt st w a nx hB hS hok ha (by omega))
  have HF := Lib.hid fun wx => fits_any body (LeftI a nx s.bs.length) wx (by omega)
  rw [hf] at HF
  have HF' : Hid (LeftI a nx s.bs.length = (((a + 1) * (s.bs.length / 2) : Nat) : Int) - nx) := rfl
  rw [← HF'.out] at HL
  have HLy := Lib.hid fun wx h1' h2' => lay_any jb base g nx s st a life cnt nx life ((cnt + 1 : Nat) : Int) body wx h1' hjb h2' hok hwr l0 l1 (by omega) (by omega) hn hat h0 h1
  obtain ⟨np, hnp⟩ : ∃ np, np = parts (Frm.put life ((cnt + 1 : Nat) : Int) body.data.toList).1 := ⟨_, rfl⟩
  rw [← hnp] at HLy hat ⊢
  obtain ⟨r, hr⟩ : ∃ r, r = layS s nx st (Frm.put life ((cnt + 1 : Nat) : Int) body.data.toList).1 np := ⟨_, rfl⟩
  rw [← hr] at HLy ⊢
  have HBk := Lib.hid hB
  have HSk := Lib.hid hS
  have hcast : ((cnt + 1 : Nat) : Int) = (cnt : Int) + 1 := by omega
  rw [hcast] at HLy ⊢
  have hlim : np ≤ 400 := by omega
  have HWp : Hid (IntKind.i64.wrap ((cnt : Int) + 1) = (cnt : Int) + 1) := IntWalk.i64_in _ (by omega)
  clear hr hnp hn hat hf hok
  go_enter Try.func31, Try.ntmps31
  go_wp2_with fail
  refine HO.out.mono ?_
  rintro e w1 ⟨rfl, hw⟩
  subst hw
  go_wp2_with fail
  refine HL.out.mono ?_
  rintro e w1 ⟨rfl, m, hm⟩
  have hBm : Blk w1 jb 64 (jC a life cnt nx st g false) := by rw [hm]; exact hB.drewN m
  have hSm : StorW.Is w1 base g s := by rw [hm]; exact hS.drewN m
  have hwm : Below w.heap.size w w1 := by rw [hm]; exact below_drewN (Below.refl _ _) m
  clear hm
  obtain ⟨x0, x1, x2, x3, x4, x5, x6⟩ := blk7' hBm
  go_wp2_with fail
  refine (HF.out _).mono ?_
  rintro e w2 ⟨rfl, hw⟩
  subst hw
  go_upto_region 7 with fail
  have bDr : Below w1.heap.size w1 w1.drew := (Below.refl _ _).drew
  have bRef : Below w1.heap.size w1 w1 := Below.refl _ _
  have HSw : Hid (∀ wx, Below w1.heap.size w1 wx → (wx.cell? ⟨jb, 1, none⟩ = some (.int .i64 life) ∧ wx.cell? ⟨jb, 2, none⟩ = some (.int .i64 cnt) ∧ wx.cell? ⟨jb, 3, none⟩ = some (.int .i64 nx))) := fun wx hb => by
    have k := hBm.below hb hBm.lt
    exact ⟨k.cell 1, k.cell 2, k.cell 3⟩
  have HSl : Hid (∀ wx st' q, Blk wx jb 64 (jC a life cnt nx st' g q) → (wx.cell? ⟨jb, 1, none⟩ = some (.int .i64 life) ∧ wx.cell? ⟨jb, 2, none⟩ = some (.int .i64 cnt) ∧ wx.cell? ⟨jb, 3, none⟩ = some (.int .i64 nx))) := fun wx st' q k => ⟨k.cell 1, k.cell 2, k.cell 3⟩
  have HLd : Hid (Calls Try.prog 50 #[.pointer (some ⟨jb, 0, none⟩), .int .i64 nx, .int .i64 life, .int .i64 ((cnt : Int) + 1), .string body] w1.drew (fun e w' => LayOut jb base g a life cnt nx r w1 w' st nx np e)) := by
    refine (HLy.out _ (hBm.drewN 1) (hSm.drewN 1)).mono ?_
    rintro e w' ⟨h1, h2, h3, h4, h5⟩
    exact ⟨h1, h2, h3, ⟨h4.os, h4.tape, h4.output, h4.size, h4.block⟩, h5⟩
  go_cut [7, 8] (fun Z1 Z2 wc => CutL w1 jb base g a life cnt nx r st nx np Z1 Z2 wc)
  case first =>
    go_region_held3 (fun w' => w'.cell? ⟨jb, 1, none⟩ = some (.int .i64 life) ∧ w'.cell? ⟨jb, 2, none⟩ = some (.int .i64 cnt) ∧ w'.cell? ⟨jb, 3, none⟩ = some (.int .i64 nx))
      (first | with_reducible exact HSw.out _ bRef | with_reducible exact HSw.out _ bDr | with_reducible exact HSl.out _ _ _ hblk)
      (first
        | (go_at_call 50; rw [HWp.out]; refine HLd.out.mono ?_; rintro e w3 ⟨rfl, ⟨st', hblk, hst⟩, his, hbel, hkeep⟩))
    all_goals go_wp2_with fail
    all_goals go_meet
    all_goals exact ⟨rfl, rfl, _, ⟨rfl, ⟨st', hblk, hst⟩, his, hbel, hkeep⟩⟩
  case rest =>
    obtain ⟨rfl, rfl, e, ⟨_, hblk, his, hbel, hkeep⟩⟩ := hcut
    have HIs := Lib.hid his
    have HBl := Lib.hid ((hwm.mono (Nat.le_trans hjb (Nat.le_of_lt hB.lt))).trans hbel)
    have HKp := Lib.hid ((keepJ_below hwm).trans hkeep)
    obtain ⟨rs, re⟩ := r
    simp only at hblk HIs ⊢
    clear his hbel hkeep x0 x1 x2 x3 x4 x5 x6
    by_cases he : re = 0
    case neg =>
      have HNe := Lib.hid he
      have e5 : (re == 0) = false := by simpa using he
      rw [layTo_no he]
      clear he hblk
      go_wp2_with fail
      go_ret
      exact ⟨rfl, fun h => absurd h HNe.out, HIs.out, HBl.out, HKp.out⟩
    case pos =>
      subst he
      obtain ⟨st', hb, hst⟩ := hblk
      have hst := hst rfl
      subst hst
      rw [layTo_yes]
      have hb' : Blk wc jb 64 (jC a life cnt nx (st + np) g false) := hb
      have HB' := Lib.hid hb'
      obtain ⟨y0, y1, y2, y3, y4, y5, y6⟩ := blk7' hb'
      have g2 := hb'.frozen 2
      have g3 := hb'.frozen 3
      clear hb hb'
      go_wp2_with fail
      go_ret
      have k1 := HB'.out.set 3 (.int .i64 ((nx + np : Nat) : Int))
      have k2 := k1.set 2 (.int .i64 ((cnt : Int) + 1))
      exact ⟨rfl, fun _ => k2, is_far (is_far HIs.out HB'.out 3 _) k1 2 _, (HBl.out.setCell (p := ⟨jb, 3, none⟩) hjb _).setCell (p := ⟨jb, 2, none⟩) hjb _, (HKp.out.trans (keepJ_set HB'.out 3 _)).trans (keepJ_set k1 2 _)⟩
theorem turn_no (jb base g a nx : Nat) (s : Stor.Sto) (st life count x : Int) (body : ByteArray) (w : World) (hB : Blk w jb 64 (jC a life count nx st g false)) (hS : StorW.Is w base g s) (hok : s.Ok) (hb : body.size ≤ 1000000)
    (hf : fitsE (need body.data.toList) ((s.bs.length / 2 : Nat) : Int) = x) (hx0 : x ≠ 0) :
    Calls Try.prog 32 #[.pointer (some ⟨jb, 0, none⟩), .string body] w (fun e w' => e = .returned (.int .i64 x) ∧ ∃ m, w' = w.drewN m) := by
  have HO := Lib.hid (open_ok jb g a life count nx st w hB)
  have HL := Lib.hid (half_any jb base g s a life count nx st w false hB hS hok)
  have HF := Lib.hid (fits_any body ((s.bs.length / 2 : Nat) : Int) w (by omega))
  rw [hf] at HF
  have e5 : (x != 0) = true := by simpa using hx0
  clear hB hS hok hf
  go_enter Try.func32, Try.ntmps32
  go_wp2_with fail
  refine HO.out.mono ?_
  rintro e w1 ⟨rfl, hw⟩
  subst hw
  go_wp2_with fail
  refine HL.out.mono ?_
  rintro e w1 ⟨rfl, hm⟩
  subst hm
  go_wp2_with fail
  refine HF.out.mono ?_
  rintro e w1 ⟨rfl, hw⟩
  subst hw
  go_wp2_with fail
  go_ret
  exact ⟨rfl, 0, rfl⟩
set_option maxHeartbeats 4000000 in
set_option maxRecDepth 100000 in
theorem turn_yes (jb base g a nx : Nat) (s : Stor.Sto) (st life count : Int) (body : ByteArray) (w : World) (hB : Blk w jb 64 (jC a life count nx st g false)) (hjb : base ≤ jb) (hS : StorW.Is w base g s) (hok : s.Ok) (hwr : s.wr < 900000) (ha : a < 2) (hb : body.size ≤ 1000000)
    (l0 : 0 ≤ life) (l1 : life + 1 < 4294967296) (hn : need body.data.toList ≤ 255) (hf : fitsE (need body.data.toList) ((s.bs.length / 2 : Nat) : Int) = 0) (hat : (1 - a) * (s.bs.length / 2) + parts (Frm.put (life + 1) 0 body.data.toList).1 ≤ s.bs.length) (h0 : 1 ≤ st) (h1 : st + 255 < 4294967296) :
    Calls Try.prog 32 #[.pointer (some ⟨jb, 0, none⟩), .string body] w (fun e w' => DoneOut jb base g (layS s ((1 - a) * (s.bs.length / 2)) st (Frm.put (life + 1) 0 body.data.toList).1 (parts (Frm.put (life + 1) 0 body.data.toList).1))
      (jC ((1 - a : Nat) : Int) (life + 1) 0 (((1 - a) * (s.bs.length / 2) + parts (Frm.put (life + 1) 0 body.data.toList).1 : Nat) : Int) (st + parts (Frm.put (life + 1) 0 body.data.toList).1) g false) w e w') := by
  have HO := Lib.hid (open_ok jb g a life count nx st w hB)
  have HL := Lib.hid (half_any jb base g s a life count nx st w false hB hS hok)
  have HF := Lib.hid (fits_any body ((s.bs.length / 2 : Nat) : Int) w (by omega))
  rw [hf] at HF
  have HLy := Lib.hid (begin_any jb base g (1 - a) s st a life count nx (life + 1) body w.drew (hB.drewN 1) hjb (hS.drewN 1) hok hwr (by omega) (by omega) l1 hn hat h0 h1)
  have hcast : ((1 - a : Nat) : Int) = 1 - (a : Int) := by omega
  rw [hcast] at HLy ⊢
  obtain ⟨cs, hcs⟩ : ∃ cs, cs = jC (1 - (a : Int)) (life + 1) 0 (((1 - a) * (s.bs.length / 2) + parts (Frm.put (life + 1) 0 body.data.toList).1 : Nat) : Int) (st + parts (Frm.put (life + 1) 0 body.data.toList).1) g false := ⟨_, rfl⟩
  rw [← hcs] at HLy ⊢
  obtain ⟨r, hr⟩ : ∃ r, r = layS s ((1 - a) * (s.bs.length / 2)) st (Frm.put (life + 1) 0 body.data.toList).1 (parts (Frm.put (life + 1) 0 body.data.toList).1) := ⟨_, rfl⟩
  rw [← hr] at HLy ⊢
  have HB := Lib.hid hB
  have HWp : Hid (IntKind.i64.wrap (life + 1) = life + 1) := IntWalk.i64_in _ (by omega)
  have HWq : Hid (IntKind.i64.wrap (1 - (a : Int)) = 1 - (a : Int)) := IntWalk.i64_in _ (by omega)
  obtain ⟨x0, x1, x2, x3, x4, x5, x6⟩ := blk7' hB
  have x0' : w.drew.cell? ⟨jb, 0, none⟩ = some (.int .i64 a) := x0
  have x1' : w.drew.cell? ⟨jb, 1, none⟩ = some (.int .i64 life) := x1
  clear hcs hr hf hat hn
  go_enter Try.func32, Try.ntmps32
  go_wp2_with fail
  refine HO.out.mono ?_
  rintro e w1 ⟨rfl, hw⟩
  subst hw
  go_wp2_with fail
  refine HL.out.mono ?_
  rintro e w1 ⟨rfl, hm⟩
  subst hm
  go_wp2_with fail
  refine HF.out.mono ?_
  rintro e w1 ⟨rfl, hw⟩
  subst hw
  go_upto_region 7 with fail
  go_still_tail 14, (by kernel_rfl)
  change wpList _ _ _ _ _ w.drew
  go_wp2_with fail
  try rw [HWp.out, HWq.out]
  refine HLy.out.mono ?_
  rintro e w1 ⟨rfl, hblk, his, hbel, hkeep⟩
  have HBk := Lib.hid hblk
  have HIs := Lib.hid his
  have HBl := Lib.hid hbel
  have HKp := Lib.hid hkeep
  clear hblk his hbel hkeep
  go_wp2_with fail
  go_ret
  exact ⟨rfl, HBk.out, HIs.out, ⟨HBl.out.os, HBl.out.tape, HBl.out.output, HBl.out.size, HBl.out.block⟩, HKp.out⟩
end Go.Proofs.Ytdhnegcblnpmfaa.JrnW

namespace Go.Proofs.Ytdhnegcblnpmfaa.StorW
open Go.RowKit Mem Stor
set_option linter.unusedVariables false

/-- a pointer toX9 no store, or toX9 one that no call made -/
def Nobody (w : World) (v : Value) : Prop := v = .pointer none ∨ ∃ g, v = .pointer (some ⟨g, 0, none⟩) ∧ Blk w g 50 #[.slice none 0 0, .bool false, .int .i64 0, .int .i64 0, .int .i64 0]

theorem made_no (v : Value) (w : World) (h : Nobody w v) :
    Calls Try.prog 42 #[v] w fun e w' => e = .returned (.bool false) ∧ w = w' := by
  rcases h with rfl | ⟨g, rfl, h⟩
  · go_enter Try.func42, Try.ntmps42
    go_wp2_with fail
    go_ret
    exact ⟨rfl, rfl⟩
  · have c0 : w.cell? ⟨g, 0, none⟩ = some (.slice none 0 0) := h.cell 0
    go_enter Try.func42, Try.ntmps42
    go_wp2_with fail
    go_ret
    exact ⟨rfl, rfl⟩
theorem reached_no (v : Value) (i : Int) (w : World) (h : Nobody w v) :
    Calls Try.prog 41 #[v, .int .i64 i] w fun e w' => e = .returned (.int .i64 1) ∧ w = w' := by
  have HM := Lib.hid (made_no v w h)
  clear h
  go_enter Try.func41, Try.ntmps41
  go_wp2_with fail
  refine HM.out.mono ?_
  rintro e w1 ⟨rfl, rfl⟩
  go_wp2_with fail
  go_ret
  exact ⟨rfl, rfl⟩
theorem read_no (v : Value) (i : Int) (w : World) (h : Nobody w v) :
    Calls Try.prog 26 #[v, .int .i64 i] w fun e w' => e = .returned (.tuple #[.string ⟨#[]⟩, .int .i64 1]) ∧ w = w' := by
  have HM := Lib.hid (reached_no v i w h)
  clear h
  go_enter Try.func26, Try.ntmps26
  go_wp2_with fail
  refine HM.out.mono ?_
  rintro e w1 ⟨rfl, rfl⟩
  go_wp2_with fail
  go_ret2
  exact ⟨rfl, rfl⟩
theorem write_no (v : Value) (i : Int) (b : ByteArray) (w : World) (h : Nobody w v) :
    Calls Try.prog 14 #[v, .int .i64 i, .string b] w fun e w' => e = .returned (.int .i64 1) ∧ w = w' := by
  have HM := Lib.hid (reached_no v i w h)
  clear h
  go_enter Try.func14, Try.ntmps14
  go_wp2_with fail
  refine HM.out.mono ?_
  rintro e w1 ⟨rfl, rfl⟩
  go_wp2_with fail
  go_ret
  exact ⟨rfl, rfl⟩
theorem arm_no (v : Value) (i k : Int) (w : World) (h : Nobody w v) :
    Calls Try.prog 16 #[v, .int .i64 i, .int .i64 k] w fun e w' => e = .returned (.int .i64 1) ∧ w = w' := by
  have HM := Lib.hid (reached_no v 0 w h)
  clear h
  go_enter Try.func16, Try.ntmps16
  go_wp2_with fail
  refine HM.out.mono ?_
  rintro e w1 ⟨rfl, rfl⟩
  go_wp2_with fail
  go_ret
  exact ⟨rfl, rfl⟩
theorem power_no (v : Value) (on : Bool) (w : World) (h : Nobody w v) :
    Calls Try.prog 44 #[v, .bool on] w fun e w' => e = .returned (.int .i64 1) ∧ w = w' := by
  have HM := Lib.hid (made_no v w h)
  clear h
  go_enter Try.func44, Try.ntmps44
  go_wp2_with fail
  refine HM.out.mono ?_
  rintro e w1 ⟨rfl, rfl⟩
  go_wp2_with fail
  go_ret
  exact ⟨rfl, rfl⟩
theorem boot_no (v : Value) (w : World) (h : Nobody w v) :
    Calls Try.prog 21 #[v] w fun e w' => e = .returned (.int .i64 1) ∧ w = w' := by
  have HM := Lib.hid (power_no v true w h)
  clear h
  go_enter Try.func21, Try.ntmps21
  go_wp2_with fail
  refine HM.out.mono ?_
  rintro e w1 ⟨rfl, rfl⟩
  go_wp2_with fail
  go_ret
  exact ⟨rfl, rfl⟩
theorem off_no (v : Value) (w : World) (h : Nobody w v) :
    Calls Try.prog 27 #[v] w fun e w' => e = .returned (.int .i64 1) ∧ w = w' := by
  have HM := Lib.hid (power_no v false w h)
  clear h
  go_enter Try.func27, Try.ntmps27
  go_wp2_with fail
  refine HM.out.mono ?_
  rintro e w1 ⟨rfl, rfl⟩
  go_wp2_with fail
  go_ret
  exact ⟨rfl, rfl⟩
theorem on_no (v : Value) (w : World) (h : Nobody w v) :
    Calls Try.prog 19 #[v] w fun e w' => e = .returned (.bool false) ∧ w = w' := by
  have HM := Lib.hid (made_no v w h)
  clear h
  go_enter Try.func19, Try.ntmps19
  go_wp2_with fail
  refine HM.out.mono ?_
  rintro e w1 ⟨rfl, rfl⟩
  go_wp2_with fail
  go_ret
  exact ⟨rfl, rfl⟩
theorem size_no (v : Value) (w : World) (h : Nobody w v) :
    Calls Try.prog 24 #[v] w fun e w' => e = .returned (.int .i64 0) ∧ w = w' := by
  have HM := Lib.hid (made_no v w h)
  clear h
  go_enter Try.func24, Try.ntmps24
  go_wp2_with fail
  refine HM.out.mono ?_
  rintro e w1 ⟨rfl, rfl⟩
  go_wp2_with fail
  go_ret
  exact ⟨rfl, rfl⟩
theorem writes_no (v : Value) (w : World) (h : Nobody w v) :
    Calls Try.prog 20 #[v] w fun e w' => e = .returned (.int .i64 0) ∧ w = w' := by
  have HM := Lib.hid (made_no v w h)
  clear h
  go_enter Try.func20, Try.ntmps20
  go_wp2_with fail
  refine HM.out.mono ?_
  rintro e w1 ⟨rfl, rfl⟩
  go_wp2_with fail
  go_ret
  exact ⟨rfl, rfl⟩
theorem image_no (v : Value) (w : World) (h : Nobody w v) :
    Calls Try.prog 17 #[v] w fun e w' => e = .returned (.slice none 0 0) ∧ w = w' := by
  have HM := Lib.hid (made_no v w h)
  clear h
  go_enter Try.func17, Try.ntmps17
  go_wp2_with fail
  refine HM.out.mono ?_
  rintro e w1 ⟨rfl, rfl⟩
  go_wp2_with fail
  go_ret
  exact ⟨rfl, rfl⟩

end Go.Proofs.Ytdhnegcblnpmfaa.StorW

namespace Go.Proofs.Ytdhnegcblnpmfaa.JrnW
open Go.RowKit Mem Jrn PackW FrameW
set_option linter.unusedVariables false
set_option linter.unusedSimpArgs false

def OpenOut (g : Nat) (f : Jrn.Fd) (w : World) (e : Ending) (w' : World) : Prop := ∃ jb A c, e = .returned (.tuple #[.pointer (some ⟨jb, 0, none⟩), .string (str f.image), .slice A f.events.length c, .int .i64 0]) ∧ w.heap.size ≤ jb ∧ Blk w' jb 64 (jC f.area f.life f.count f.next f.stamp g false) ∧ TxW w' w.heap.size A f.events.length c f.events ∧ Below w.heap.size w w'
set_option maxHeartbeats 4000000 in
set_option maxRecDepth 100000 in
theorem open_yes (base g : Nat) (s : Stor.Sto) (w : World) (h : StorW.Is w base g s) (hok : s.Ok) (hon : s.off = false) (h4 : 4 ≤ s.bs.length) (hst : (Jrn.counts s.bs).stands = true) :
    Calls Try.prog 37 #[.pointer (some ⟨g, 0, none⟩)] w (OpenOut g (Jrn.counts s.bs) w) := by
  have HU := Lib.hid (usable_any base g s w h hok hon h4)
  have hf := hok.few
  have HC := Lib.hid fun A c wx ht => counts_any A s.bs.length c s.bs wx ht hok.whole (by omega) (by omega)
  obtain ⟨f, hfe⟩ : ∃ f, f = Jrn.counts s.bs := ⟨_, rfl⟩
  rw [← hfe] at HC hst ⊢
  obtain ⟨fa, fl, fc, fn, fs, fi, fe, fb⟩ := f
  simp only at hst
  subst hst
  clear hfe h hok hon
  go_enter Try.func37, Try.ntmps37
  go_wp2_with fail
  refine HU.out.mono ?_
  rintro e w1 ⟨A1, c1, rfl, hT1, b1⟩
  have HC1 := Lib.hid (HC.out A1 c1 w1 hT1)
  clear hT1
  go_wp2_with fail
  refine HC1.out.mono ?_
  rintro e w2 ⟨A2, c2, rfl, hT2, b2⟩
  have hb2 := below_step b1 b2
  obtain ⟨V, hV⟩ : ∃ V, V = w2.alloc (.cells (fdR fa fl fc fn fs fi A2 fe.length c2 true) 93) := ⟨_, rfl⟩
  have bV : Below w2.heap.size w2 V := by rw [hV]; exact (Below.refl _ _).alloc (Nat.le_refl _) _
  have kV : Blk V w2.heap.size 93 (fdR fa fl fc fn fs fi A2 fe.length c2 true) := by rw [hV]; exact Blk.new _ _ _
  have hbV := below_step hb2 bV
  have hTV := hT2.below bV
  go_upto_region 5 with fail
  have hV' : w2.alloc (.cells #[.int .i64 fa, .int .i64 fl, .int .i64 fc, .int .i64 fn, .int .i64 fs, .string (str fi), .slice A2 fe.length c2, .bool true] 93) = V := hV.symm
  rw [hV']
  obtain ⟨x0, x1, x2, x3, x4, x5, x6, x7⟩ := blk8' kV
  have kB : Blk (V.alloc (.cells (jC fa fl fc fn fs g false) 64)) w2.heap.size 93 (fdR fa fl fc fn fs fi A2 fe.length c2 true) := kV.alloc _
  have y5 : ((V.alloc (.cells (jC fa fl fc fn fs g false) 64)).drew).cell? ⟨w2.heap.size, 5, none⟩ = some (.string (str fi)) := kB.drew.cell 5
  have y6 : ((V.alloc (.cells (jC fa fl fc fn fs g false) 64)).drew).cell? ⟨w2.heap.size, 6, none⟩ = some (.slice A2 fe.length c2) := kB.drew.cell 6
  have y5' : (V.alloc (.cells (jC fa fl fc fn fs g false) 64)).cell? ⟨w2.heap.size, 5, none⟩ = some (.string (str fi)) := kB.cell 5
  have y6' : (V.alloc (.cells (jC fa fl fc fn fs g false) 64)).cell? ⟨w2.heap.size, 6, none⟩ = some (.slice A2 fe.length c2) := kB.cell 6
  clear hV hV' hT2 b2 hb2 bV
  go_wp2_with fail
  go_region
  all_goals go_wp2_with fail
  have bJ : Below V.heap.size V ((V.alloc (.cells (jC fa fl fc fn fs g false) 64)).drew) := ((Below.refl _ _).alloc (Nat.le_refl _) _).drew
  refine bodyPost_ret (v := .tuple #[.pointer (some ⟨V.heap.size, 0, none⟩), .string (str fi), .slice A2 fe.length c2, .int .i64 0]) (by simp [results, Try.results37, go_sem]) rfl ?_
  exact ⟨V.heap.size, A2, c2, rfl, hbV.size, (Blk.new V 64 (jC fa fl fc fn fs g false)).drew, (hTV.below bJ).mono b1.size, below_step hbV bJ⟩
def FormatOut (base g : Nat) (r : Stor.Sto × Int) (cs : Array Value) (w : World) (e : Ending) (w' : World) : Prop := ∃ jb, e = .returned (.tuple #[.pointer (some ⟨jb, 0, none⟩), .int .i64 0]) ∧ w.heap.size ≤ jb ∧ Blk w' jb 64 cs ∧ StorW.Is w' base g r.1 ∧ Below base w w' ∧ KeepJ w w'
set_option maxHeartbeats 4000000 in
set_option maxRecDepth 100000 in
theorem format_new (base g : Nat) (s : Stor.Sto) (st : Int) (body : ByteArray) (w : World) (h : StorW.Is w base g s) (hbw : base ≤ w.heap.size) (hok : s.Ok) (hon : s.off = false) (h4 : 4 ≤ s.bs.length) (hst : (Jrn.counts s.bs).stands = false) (hstp : (Jrn.counts s.bs).stamp = st) (hwr : s.wr < 900000) (hb : body.size ≤ 1000000)
    (hn : need body.data.toList ≤ 255) (hf : fitsE (need body.data.toList) ((s.bs.length / 2 : Nat) : Int) = 0) (hat : parts (Frm.put 1 0 body.data.toList).1 ≤ s.bs.length) (h0 : 1 ≤ st) (h1 : st + 255 < 4294967296)
    (hr0 : (layS s 0 st (Frm.put 1 0 body.data.toList).1 (parts (Frm.put 1 0 body.data.toList).1)).2 = 0) :
    Calls Try.prog 36 #[.pointer (some ⟨g, 0, none⟩), .string body] w (FormatOut base g (layS s 0 st (Frm.put 1 0 body.data.toList).1 (parts (Frm.put 1 0 body.data.toList).1))
      (jC 0 1 0 ((parts (Frm.put 1 0 body.data.toList).1 : Nat) : Int) (st + parts (Frm.put 1 0 body.data.toList).1) g false) w) := by
  have HU := Lib.hid (usable_any base g s w h hok hon h4)
  have hbs := hok.few
  have hdiv : Int.tdiv (s.bs.length : Int) 2 = ((s.bs.length / 2 : Nat) : Int) := rfl
  have HF := Lib.hid fun wx => fits_any body ((s.bs.length / 2 : Nat) : Int) wx (by omega)
  rw [hf] at HF
  have HC := Lib.hid fun A c wx ht => counts_any A s.bs.length c s.bs wx ht hok.whole (by omega) (by omega)
  obtain ⟨f, hfe⟩ : ∃ f, f = Jrn.counts s.bs := ⟨_, rfl⟩
  rw [← hfe] at HC hst hstp
  obtain ⟨fa, fl, fc, fn, fs, fi, fe, fb⟩ := f
  simp only at hst hstp
  subst hst hstp
  have HBg := Lib.hid fun wx jb hB hjb hS => begin_any jb base g 0 s fs fa fl fc fn 1 body wx hB hjb hS hok hwr (by omega) (by omega) (by omega) hn (by simpa using hat) h0 h1
  simp only [Nat.zero_mul, Nat.zero_add] at HBg
  obtain ⟨np, hnp⟩ : ∃ np, np = parts (Frm.put 1 0 body.data.toList).1 := ⟨_, rfl⟩
  rw [← hnp] at HBg hat hr0 ⊢
  obtain ⟨r, hr⟩ : ∃ r, r = layS s 0 fs (Frm.put 1 0 body.data.toList).1 np := ⟨_, rfl⟩
  rw [← hr] at HBg hr0 ⊢
  have HIs := Lib.hid h
  have hlim : s.bs.length ≤ 400 := hbs
  clear hfe h hok hon hr hnp hat hn hf
  go_enter Try.func36, Try.ntmps36
  go_wp2_with fail
  refine HU.out.mono ?_
  rintro e w1 ⟨A1, c1, rfl, hT1, b1⟩
  have HC1 := Lib.hid fun m => HC.out A1 c1 (w1.drewN m) (hT1.below (below_drewN (Below.refl _ _) m))
  clear hT1
  go_wp2_with fail
  refine (HF.out _).mono ?_
  rintro e w2 ⟨rfl, hw⟩
  subst hw
  go_wp2_with fail
  refine (HC1.out 0).mono ?_
  rintro e w2 ⟨A2, c2, rfl, hT2, b2⟩
  have hb2 : Below w.heap.size w w2 := below_step b1 b2
  obtain ⟨V, hV⟩ : ∃ V, V = w2.alloc (.cells (fdR fa fl fc fn fs fi A2 fe.length c2 false) 93) := ⟨_, rfl⟩
  have bV : Below w2.heap.size w2 V := by rw [hV]; exact (Below.refl _ _).alloc (Nat.le_refl _) _
  have kV : Blk V w2.heap.size 93 (fdR fa fl fc fn fs fi A2 fe.length c2 false) := by rw [hV]; exact Blk.new _ _ _
  have hbV := below_step hb2 bV
  go_upto_region 8 with fail
  have hV' : w2.alloc (.cells #[.int .i64 fa, .int .i64 fl, .int .i64 fc, .int .i64 fn, .int .i64 fs, .string (str fi), .slice A2 fe.length c2, .bool false] 93) = V := hV.symm
  rw [hV']
  obtain ⟨x0, x1, x2, x3, x4, x5, x6, x7⟩ := blk8' kV
  have kB : Blk (V.alloc (.cells (jC fa fl fc fn fs g false) 64)) w2.heap.size 93 (fdR fa fl fc fn fs fi A2 fe.length c2 false) := kV.alloc _
  have kJ := Blk.new V 64 (jC fa fl fc fn fs g false)
  have y7 : (V.alloc (.cells (jC fa fl fc fn fs g false) 64)).cell? ⟨w2.heap.size, 7, none⟩ = some (.bool false) := kB.cell 7
  have bJ : Below V.heap.size V (V.alloc (.cells (jC fa fl fc fn fs g false) 64)) := (Below.refl _ _).alloc (Nat.le_refl _) _
  have hbJ := below_step hbV bJ
  have HB1 := Lib.hid (HBg.out _ V.heap.size kJ (Nat.le_trans hbw hbV.size) (HIs.out.below hbJ))
  have hKJ := keepJ_below hbJ
  have HBl := Lib.hid (hbJ.mono hbw)
  have HKp := Lib.hid hKJ
  have hVs := hbV.size
  clear hV hV' hT2 b2 hb2 bV HBg hbJ hKJ kJ
  go_wp2_with fail
  refine HB1.out.mono ?_
  rintro e w3 ⟨rfl, hblk, his, hbel, hkeep⟩
  have HBk := Lib.hid (hblk hr0)
  have HI3 := Lib.hid his
  have HB3 := Lib.hid hbel
  have HK3 := Lib.hid hkeep
  have e5 : (r.2 != 0) = false := by rw [hr0]; rfl
  rw [hr0]
  clear hblk his hbel hkeep
  go_wp2_with fail
  go_ret2
  exact ⟨V.heap.size, rfl, hVs, HBk.out, HI3.out, HBl.out.trans HB3.out, HKp.out.trans HK3.out⟩
theorem usable_no (v : Value) (w : World) (h : StorW.Nobody w v) : Calls Try.prog 53 #[v] w fun e w' => e = .returned (.tuple #[.slice none 0 0, .int .i64 1]) ∧ w = w' := by
  have HR := Lib.hid (StorW.read_no v 0 w h)
  go_enter Try.func53, Try.ntmps53
  go_wp2_with fail
  refine HR.out.mono ?_
  rintro e w1 ⟨rfl, hw⟩
  subst hw
  go_wp2_with fail
  go_ret2
  exact ⟨rfl, rfl⟩
theorem format_no (v : Value) (s : ByteArray) (w : World) (h : StorW.Nobody w v) : Calls Try.prog 36 #[v, .string s] w fun e w' => e = .returned (.tuple #[.pointer none, .int .i64 1]) ∧ w = w' := by
  have HR := Lib.hid (usable_no v w h)
  go_enter Try.func36, Try.ntmps36
  go_wp2_with fail
  refine HR.out.mono ?_
  rintro e w1 ⟨rfl, hw⟩
  subst hw
  go_wp2_with fail
  go_ret2
  exact ⟨rfl, rfl⟩
theorem open_no (v : Value) (w : World) (h : StorW.Nobody w v) : Calls Try.prog 37 #[v] w fun e w' => e = .returned (.tuple #[.pointer none, .string ⟨#[]⟩, .slice none 0 0, .int .i64 1]) ∧ w = w' := by
  have HR := Lib.hid (usable_no v w h)
  go_enter Try.func37, Try.ntmps37
  go_wp2_with fail
  refine HR.out.mono ?_
  rintro e w1 ⟨rfl, hw⟩
  subst hw
  go_wp2_with fail
  exact bodyPost_ret (v := .tuple #[.pointer none, .string ⟨#[]⟩, .slice none 0 0, .int .i64 1]) (by simp [results, Try.results37, go_sem]) rfl ⟨rfl, rfl⟩
end Go.Proofs.Ytdhnegcblnpmfaa.JrnW
