/-
  Contract: frame.Cut.
-/
import Derived.Test.YtgmoakbmomaffaaFrameCut
import Derived.Test.YtgmoakbmomaffaaPackSame
namespace Go.Proofs.Ytgmoakbmomaffaa.FrameW
open Go.RowKit Go.Shelf Mem Frm PackW
set_option linter.unusedVariables false
set_option linter.unusedSimpArgs false
attribute [local go_sem] Oper.semAt_some

def strRow (x : List UInt8) : List Value := [.string (str x)]
theorem layX : Lay strRow 1 := ⟨fun _ => rfl, fun x u hu => by simp [strRow] at hu; subst hu; rfl, by omega⟩
theorem flat_sv (l : List (List UInt8)) : l.flatMap strRow = sv l := by
  induction l with
  | nil => rfl
  | cons x r ih => rw [List.flatMap_cons, ih]; rfl
abbrev TxO := SOwn strRow 1
theorem TxO.txs {w : World} {base : Nat} {A : Option Addr} {n c : Nat} {l : List (List UInt8)} (h : TxO w base A n c l) : Txs w A n l := Txs.of_ownc (by have := h.2; rwa [flat_sv] at this)
theorem lit_t (w : World) (x : List UInt8) : Lst strRow 1 (w.alloc (.cells #[.string (str x)] 9)) (some ⟨w.heap.size, 0, none⟩) 1 [x] := Lst.new layX w x #[.string (str x)] 9 rfl
theorem strInfo : (Try.prog.info? 9).map (fun i => (i.zero, i.size, i.bytes)) = some (some (.string ⟨#[]⟩), 1, 16) := by kernel_rfl
def bods (s : List UInt8) : List (List UInt8) := (Frm.all s).map (·.1)
/-- what the loop's cells hold when pre has come -/
structure CutI (w : World) (B1 B2 Bs : Nat) (pre : List (List UInt8 × Int)) (W : World) (A : Option Addr) (c : Nat) : Prop where
  box : Blk W B1 22 #[.slice A pre.length c]
  beh : Blk W B2 3 #[.int .i64 (lastTo pre)]
  own : TxO W w.heap.size A pre.length c (pre.map (·.1))
  cells : InCells W A
  apart : ∀ b, A = some ⟨b, 0, none⟩ → b ≠ B1 ∧ b ≠ B2 ∧ b ≠ Bs
  s : Bs < W.heap.size
theorem CutI.grown {w : World} {B1 B2 Bs : Nat} {pre : List (List UInt8 × Int)} {W W' : World} {A : Option Addr} {c : Nat} {row : Option Nat} (h : CutI w B1 B2 Bs pre W A c) (hg : W.grownBy W' row) (hr : NoCells W row) : CutI w B1 B2 Bs pre W' A c :=
  ⟨Blk.grownN h.box hg hr, Blk.grownN h.beh hg hr, ⟨h.own.1, OwnC.grown h.own.2 hg hr⟩, h.cells.grown hg hr, h.apart, Nat.lt_of_lt_of_le h.s hg.size⟩
theorem keep1_put {b : Nat} {w : World} (h1 : b < w.heap.size) (W : World) (l : Nat) (o o' : Obj) (hl : w.heap.size ≤ l) (h : W.heap[l]? = some o) (_ : o.isCells = false) (_ : o.isWalk = false) : Keep1 b W (W.putObj l o') := World.putObj_heap_other (fun e => by omega)
theorem Keep1.trans {b : Nat} {A B C : World} (h : Keep1 b A B) (k : Keep1 b B C) : Keep1 b A C := Eq.trans k h
def CutPost (s : ByteArray) (w : World) (e : Ending) (w' : World) : Prop := ∃ A c, e = .returned (.tuple #[.slice A (bods s.data.toList).length c, .int .i64 (lastTo (Frm.all s.data.toList))]) ∧ Txs w' A (bods s.data.toList).length (bods s.data.toList) ∧ Below w.heap.size w w'
set_option maxRecDepth 100000 in
set_option maxHeartbeats 4000000 in
theorem cut_any (s : ByteArray) (w : World) (hs : s.size ≤ 1000000) : Calls Try.prog 42 #[.string s] w (CutPost s w) := by
  have hcnt := all_len s.data.toList
  have hsl : s.data.toList.length = s.size := by simp
  rw [hsl] at hcnt
  have hm : s.size ≤ maxLen := by unfold maxLen; omega
  have HM := Lib.hid hm
  clear hsl hm
  refine (callsIn_wide (n := 5)).1 ?_
  refine callsIn_of_wp_marks Try.func42 rfl trivial ?_ rfl
  simp only [Try.ntmps42, List.size_toArray, List.length_cons, List.length_nil, Nat.reduceAdd, Nat.reduceSub, Array.replicate_succ, Array.replicate_zero, List.push_toArray, List.append_toArray, List.nil_append, List.cons_append]
  gi_wp2_with fail
  obtain ⟨V, hV⟩ : ∃ V, V = (w.alloc (.cells #[.slice none 0 0] 22)).alloc (.cells #[.int .i64 0] 3) := ⟨_, rfl⟩
  have bV : Below w.heap.size w V := by rw [hV]; exact ((Below.refl _ _).alloc (Nat.le_refl _) _).alloc (by simp) _
  have kB : Blk V w.heap.size 22 #[.slice none 0 0] := by rw [hV]; exact (Blk.new _ _ _).alloc _
  have kT : Blk V (w.heap.size + 1) 3 #[.int .i64 0] := by
    rw [hV]
    have := Blk.new (w.alloc (.cells #[.slice none 0 0] 22)) 3 #[.int .i64 0]
    simpa using this
  have hVs : V.heap.size = w.heap.size + 2 := by rw [hV]; simp
  rw [← hV]
  clear hV
  refine ⟨trivial, ?_⟩
  refine (callsIn_wide.2 (frames_any s V)).mono ?_
  rintro e W4 ⟨rfl, hW4⟩
  have b4 : Below V.heap.size V W4 := by rw [hW4]; exact (Below.refl _ _).alloc (Nat.le_refl _) _
  have kS : Blk W4 V.heap.size 9 #[.string s] := by rw [hW4]; exact Blk.new _ _ _
  have kB4 := kB.below b4 kB.lt
  have kT4 := kT.below b4 kT.lt
  have b04 : Below w.heap.size w W4 := below_step bV b4
  have hs4 : W4.heap.size = V.heap.size + 1 := by rw [hW4]; simp
  have HS3 := Lib.hid hVs
  have HS4 := Lib.hid hs4
  clear hW4 hVs hs4
  gi_wp2_with fail
  have hs3 := HS3.out
  have hs4 := HS4.out
  refine wpIn_rangeFunc_ownG rfl (by omega) (gf := 63) (lb := #[.pointer (some ⟨V.heap.size, 0, none⟩)]) rfl trivial (enters_of Try.func63 (by kernel_rfl) rfl)
    (frames_stops _ (by omega) V.heap.size s HM.out W4 kS) Keep1.trans (keep1_put (w := W4) (by omega)) (Below.refl _ _) (fun _ => rfl)
    (fun pre W => (∃ A' c', CutI w w.heap.size (w.heap.size + 1) V.heap.size pre W A' c') ∧ Below w.heap.size w W)
    (fun _ _ _ => False)
    (OwnFrom.and (Own.from (fun pre W W' row hs hg hr => by obtain ⟨A', c', hi⟩ := hs; exact ⟨A', c', hi.grown hg hr⟩) _) (ownFrom_below (Nat.le_refl _) (by have := b04.size; omega)))
    (fun _ _ _ _ _ hs _ _ => hs)
    ⟨⟨none, 0, ⟨kB4, kT4, SOwn.nil _ _ _ _, fun b e => by (cases e), fun b e => by (cases e), by omega⟩⟩, b04⟩
    ?a1 ?assign ?body ?done ?stop
  case assign =>
    intro l x W K hK
    gi_wp2
    exact hK
  case body =>
    rintro l pre x W ⟨⟨A', c', hi⟩, hB⟩ hlt
    obtain ⟨U, hU⟩ : ∃ U, U = W.alloc (.cells #[.string (str x.1)] 9) := ⟨_, rfl⟩
    have bU : Below W.heap.size W U := by rw [hU]; exact (Below.refl _ _).alloc (Nat.le_refl _) _
    have sU : Lst strRow 1 U (some ⟨W.heap.size, 0, none⟩) 1 [x.1] := by rw [hU]; exact lit_t W x.1
    obtain ⟨A3, c3, w3, hrun, o3, b3', hfr, hA3⟩ := app_s layX (P := Try.prog) U w.heap.size 22 22 9 _ 16 Try.underlying22 strInfo rfl A' pre.length c' _ (hi.own.below bU) (some ⟨W.heap.size, 0, none⟩) 1 1 [x.1] sU (by simp only [maxLen]; omega) (by omega) (Nat.le_trans hB.size bU.size)
    have HR := Lib.hid hrun
    rw [hU] at HR
    have hsU : U.heap.size = W.heap.size + 1 := by rw [hU]; simp
    have keep : ∀ b, b < W.heap.size → A' ≠ some ⟨b, 0, none⟩ → w3.heap[b]? = W.heap[b]? := fun b hb hne => (hfr b (by omega) hne).trans (bU.block b hb)
    have nA : ∀ b, (b = w.heap.size ∨ b = w.heap.size + 1 ∨ b = V.heap.size) → A' ≠ some ⟨b, 0, none⟩ := fun b hb e => by
      obtain ⟨q1, q2, q3⟩ := hi.apart b e
      omega
    have hbox := hi.box
    have hto := hi.beh
    have hbox3 : Blk w3 w.heap.size 22 #[.slice A' pre.length c'] := (keep _ hbox.lt (nA _ (by omega))).trans hbox
    have hto3 : Blk w3 (w.heap.size + 1) 3 #[.int .i64 (lastTo pre)] := (keep _ hto.lt (nA _ (by omega))).trans hto
    have x0 := blk1 hbox
    have x0U := blk1 (hbox.alloc (.cells #[.string (str x.1)] 9))
    have y0 := blk1 hbox3
    have g0 := hbox3.frozen 0
    have y1 := blk1 hto3
    have g1 := hto3.frozen 0
    have HI := Lib.hid hi
    have HO3 := Lib.hid o3
    have HA3 := Lib.hid hA3
    have HKeep := Lib.hid keep
    have HB3 := Lib.hid (bU.mono hB.size |>.trans b3')
    have hsz3 : W.heap.size + 1 ≤ w3.heap.size := by rw [← hsU]; exact b3'.size
    have HBox3 := Lib.hid hbox3
    have HTo3 := Lib.hid hto3
    clear hi o3 hrun hfr hU hA3 sU b3' bU keep
    gi_wp2_with (gi_at_builtin; refine wpListIn_app2 rfl _ _ rfl rfl rfl HR.out ?_)
    have hi := HI.out
    have ne3 : ∀ b, A3 = some ⟨b, 0, none⟩ → b ≠ w.heap.size ∧ b ≠ w.heap.size + 1 ∧ b ≠ V.heap.size := fun b e => by
      rcases HA3.out with h | h
      · exact hi.apart b (h ▸ e)
      · rw [h] at e
        injection e with e
        injection e with e
        have q1 := hi.box.lt
        have q2 := hi.beh.lt
        have q3 := hi.s
        omega
    have oth : ∀ b, b ≠ w.heap.size → b ≠ w.heap.size + 1 → ((w3.setCell ⟨w.heap.size, 0, none⟩ (.slice A3 (pre.length + 1) c3)).setCell ⟨w.heap.size + 1, 0, none⟩ (.int .i64 x.2)).heap[b]? = w3.heap[b]? := fun b h1 h2 =>
      (Below.heap_setCell _ _ _ b h2).trans (Below.heap_setCell w3 _ _ b h1)
    have own3 : TxO ((w3.setCell ⟨w.heap.size, 0, none⟩ (.slice A3 (pre.length + 1) c3)).setCell ⟨w.heap.size + 1, 0, none⟩ (.int .i64 x.2)) w.heap.size A3 (pre ++ [x]).length c3 ((pre ++ [x]).map (·.1)) := by
      rw [List.map_append, List.length_append]
      exact ⟨HO3.out.1, HO3.out.2.keep (by simp) (fun g e _ => oth g (ne3 g e).1 (ne3 g e).2.1)⟩
    have q3 := hi.s
    have q5 := hi.box.lt
    refine ⟨KeepsFrom.trans ⟨by omega, fun k o hB' hk ho => ?_⟩ (((KeepsOthers.setCell _ _ _).trans (KeepsOthers.setCell _ _ _)).from _), (oth _ (by omega) (by omega)).trans (HKeep.out _ q3 (nA _ (by omega))), ⟨A3, c3, ⟨?_, ?_, own3, ?_, ne3, by simp; omega⟩⟩, ?_⟩
    · rw [HKeep.out k (Array.getElem?_eq_some_iff.1 hk).1 (fun e => by
        obtain ⟨o', ho', hc'⟩ := hi.cells k e
        rw [hk] at ho'
        injection ho' with e'
        subst e'
        rw [ho] at hc'
        cases hc')]
      exact hk
    · rw [List.length_append]
      exact (HBox3.out.set 0 (.slice A3 (pre.length + 1) c3)).far (p := ⟨w.heap.size + 1, 0, none⟩) (by simp) _
    · rw [lastTo_snoc]
      exact (HTo3.out.far (p := ⟨w.heap.size, 0, none⟩) (by simp) _).set 0 (.int .i64 x.2)
    · exact InCells.own own3.2 (by simp) (by omega)
    · exact ((hB.trans HB3.out).setCell (p := ⟨w.heap.size, 0, none⟩) (Nat.le_refl _) _).setCell (p := ⟨w.heap.size + 1, 0, none⟩) (by simp) _
  case done =>
    rintro D ys W hD rfl ⟨⟨A', c', hi⟩, hB⟩ hK
    have x0 := blk1 hi.box
    have x1 := blk1 hi.beh
    have HI := Lib.hid hi
    have hbl : (bods s.data.toList).length = (Frm.all s.data.toList).length := by simp [bods]
    clear hi
    gi_wp2_with fail
    gi_region
    all_goals gi_wp2_with fail
    have hK' : W.drew.heap[D]? = some (.deferred (some [])) := hK
    refine ⟨by simp, .inl ⟨_, _, rfl, run_takeDeferred hK', ?_⟩⟩
    refine ⟨_, results_tmp2 rfl _ _ _, ?_⟩
    have hg := grownBy_putObj' W.drew D (.deferred none)
    have hr : NoCells W.drew (some D) := fun r e => by cases e; exact ⟨_, hK', rfl⟩
    have own : TxO (W.drew.putObj D (.deferred none)) w.heap.size A' (Frm.all s.data.toList).length c' (bods s.data.toList) := ⟨HI.out.own.1, OwnC.grown (HI.out.own.2.drew) hg hr⟩
    exact ⟨A', c', by rw [hbl]; rfl, by rw [hbl]; exact own.txs, hB.drew.trans (belowK_b (w := w) (Nat.le_refl _) W.drew D _ _ (by have := b04.size; omega) hK' rfl rfl)⟩
  case stop =>
    rintro D c pre W _ _ h _
    exact h.elim
end Go.Proofs.Ytgmoakbmomaffaa.FrameW
