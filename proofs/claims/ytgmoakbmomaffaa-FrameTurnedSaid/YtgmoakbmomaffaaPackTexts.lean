/-
  Contracts of muster/pack.Texts, for every list of texts.
-/
import Derived.Test.YtgmoakbmomaffaaPackRef2
import Derived.Test.YtgmoakbmomaffaaBuilder
namespace Go.Proofs.Ytgmoakbmomaffaa.PackW
open Go.RowKit Mem
set_option linter.unusedVariables false

theorem own_below {w w' : World} {base : Nat} {e : TypeId} {size : Nat} {v : Value} {n : Nat} {xs : List Value} (h : w.ownsRow base e size v n xs) (hb : Below w.heap.size w w') : w'.ownsRow base e size v n xs := by
  refine ⟨h.1, ?_⟩
  rcases h.2 with h2 | ⟨g, cap, cur, hv, hg, hh, r⟩
  · exact .inl h2
  · exact .inr ⟨g, cap, cur, hv, hg, (hb.block g (lt_of_block hh)).trans hh, r⟩
theorem bld_below {w w' : World} {T e : TypeId} {B b : Nat} {p : Value} {bs : List Value} (h : Lib.BuilderAt T e B b p bs w) (hb : Below w.heap.size w w') : Lib.BuilderAt T e B b p bs w' := by
  obtain ⟨hB, v, hbk, hown, hne⟩ := h
  exact ⟨hB, v, (hb.block b (lt_of_block hbk)).trans hbk, own_below hown hb, hne⟩
theorem isbld_below {w w' : World} {T e : TypeId} {B b : Nat} {bs : List Value} (h : Lib.IsBuilder T e B b bs w) (hb : Below w.heap.size w w') : Lib.IsBuilder T e B b bs w' := h.elim (fun h => .inl (bld_below h hb)) (fun h => .inr (bld_below h hb))
theorem strCells_str (l : List UInt8) : Lib.strCells (str l) = Lib.byteCells l := by simp [Lib.strCells, Lib.byteCells, str]
theorem byteCells_app (l m : List UInt8) : Lib.byteCells l ++ Lib.byteCells m = Lib.byteCells (l ++ m) := by simp [Lib.byteCells]

/-- a text that may be laid -/
theorem text_small {s : List UInt8} (h : ¬ 65535 < s.length) : Pack.text s = (Pack.be 2 s.length ++ s, 0) := by simp [Pack.text, h]
theorem text_big {s : List UInt8} (h : 65535 < s.length) : Pack.text s = ([], 3) := by simp [Pack.text, h]

def TextsRel (w : World) (l : List ByteArray) (i : Value) (wr : World) : Prop :=
  ∃ k : Nat, k ≤ l.length ∧ i = .int .i64 k ∧ ((l.take k).map (·.data.toList)).any (fun s => decide (65535 < s.length)) = false ∧
    Lib.IsBuilder 89 5 w.heap.size w.heap.size (Lib.byteCells (Pack.be 2 l.length ++ Pack.flat ((l.take k).map (·.data.toList)))) wr ∧ Below w.heap.size w wr ∧ w.heap.size ≤ wr.heap.size

theorem texts_big {l : List (List UInt8)} {s : List UInt8} (hs : s ∈ l) (h : 65535 < s.length) : Pack.texts l = ([], 3) := by
  unfold Pack.texts
  split
  · rfl
  · rw [if_pos (List.any_eq_true.2 ⟨s, hs, by simpa using h⟩)]

set_option maxHeartbeats 400000 in
set_option maxRecDepth 100000 in
theorem texts_any (A : Option Addr) (n c : Nat) (l : List ByteArray) (w : World) (h : Strs w A n l) (hn : n ≤ maxLen) (hs : ∀ s ∈ l, s.size ≤ maxLen) :
    Calls Try.prog 28 #[.slice A n c] w fun e w' => e = .returned (.tuple #[.string (str (Pack.texts (l.map (·.data.toList))).1), .int .i64 (Pack.texts (l.map (·.data.toList))).2]) ∧ Below w.heap.size w w' := by
  unfold maxLen at hn
  have hl := h.len
  subst hl
  by_cases hbig : 65535 < l.length
  · have HT : Hid (Pack.texts (l.map (·.data.toList)) = ([], 3)) := by show _ = _; simp [Pack.texts, hbig]
    go_enter Try.func28, Try.ntmps28
    go_wp2_with fail
    go_ret2
    exact ⟨by rw [HT.out]; rfl, Below.refl _ _⟩
  · have hbld := Lib.fresh_isBuilder 89 5 w
    have hb0 := (Below.refl w.heap.size w).alloc (Nat.le_refl _) (.cells #[.pointer none, .slice none 0 0] 89)
    go_enter Try.func28, Try.ntmps28
    go_wp2_with fail
    refine (laid_any _ _ _ (by omega) (by omega) (by omega) (by omega)).mono ?_
    rintro e w1 ⟨rfl, hb1⟩
    have hbld1 := isbld_below hbld hb1
    have hb2 : Below w.heap.size w w1 := hb0.trans (hb1.mono (by simp))
    clear hbld hb0 hb1
    go_wp2_with fail
    refine (BldW.writeString w.heap.size w.heap.size _ _ _ hbld1 (by rw [str_size, Pack.be_length]; simp) hb2.size).mono ?_
    rintro e w2 ⟨rfl, hbld2, hb3⟩
    have hb4 := hb2.trans hb3
    clear hbld1 hb2 hb3
    rw [strCells_str, List.nil_append] at hbld2
    go_wp2_with fail
    go_loopw [18] (fun i wr => TextsRel w l i wr) (fun i _ => l.length - (intOf i).toNat)
    case atStart => exact ⟨0, by omega, rfl, by simp, .inr (by simpa [Pack.flat] using hbld2), hb4, hb4.size⟩
    case round =>
      clear hbld2 hb4
      obtain ⟨k, hk, rfl, hno, hbld, hbel, hsz⟩ := hrel
      have HN := Lib.hid hno
      by_cases hlt : k < l.length
      · obtain ⟨b, off, s, rfl, hbl, hsk, hc⟩ := (h.below hbel).at_ hlt
        have hsm := mem_of_at hsk
        have hsz' := hs s hsm
        have hts := take_snoc_some hsk
        have HX := Lib.hid (text_any s wr hsz')
        by_cases hsb : 65535 < s.size
        · have HT : Hid (Pack.texts (l.map (·.data.toList)) = ([], 3)) := texts_big (List.mem_map_of_mem hsm) (by simpa using hsb)
          have hx : Pack.text s.data.toList = ([], 3) := text_big (by simpa using hsb)
          rw [hx] at HX
          clear hx hts hsk hno hs h
          go_wp2_with fail
          refine HX.out.mono ?_
          rintro e w3 ⟨rfl, hb3⟩
          go_wp2_with fail
          go_ret2
          exact ⟨by rw [HT.out]; rfl, below_step hbel hb3⟩
        · have hx : Pack.text s.data.toList = (Pack.be 2 s.size ++ s.data.toList, 0) := by rw [text_small (by simpa using hsb)]; simp
          rw [hx] at HX
          have hfl := Pack.flat_le ((l.take k).map (·.data.toList)) hno
          rw [List.length_map, List.length_take] at hfl
          have HF : Hid (Pack.flat ((l.take (k + 1)).map (·.data.toList)) = Pack.flat ((l.take k).map (·.data.toList)) ++ (Pack.be 2 s.size ++ s.data.toList)) := by
            show _ = _
            rw [hts, List.map_append, List.map_cons, List.map_nil, Pack.flat_snoc]
            simp
          have HNo : Hid (((l.take (k + 1)).map (·.data.toList)).any (fun s => decide (65535 < s.length)) = false) := by
            show _ = _
            rw [hts, List.map_append, List.any_append, hno]
            simpa using hsb
          obtain ⟨M, hM⟩ : ∃ M, M = Pack.flat ((l.take k).map (·.data.toList)) := ⟨_, rfl⟩
          rw [← hM] at hbld hfl HF
          have HM := Lib.hid hM
          clear hx hts hsk hno hs h hM
          go_wp2_with fail
          refine HX.out.mono ?_
          rintro e w3 ⟨rfl, hb3⟩
          have hbld3 := isbld_below hbld hb3
          have hb4 := below_step hbel hb3
          clear hbld hb3 hbel
          go_wp2_with fail
          refine (BldW.writeString w.heap.size w.heap.size _ _ _ hbld3 (by rw [Lib.byteCells_length, str_size]; simp [Pack.be_length]; omega) hb4.size).mono ?_
          rintro e w4 ⟨rfl, hbld4, hb5⟩
          go_wp2_with fail
          refine ⟨⟨k + 1, by omega, by go_num, HNo.out, .inr ?_, hb4.trans hb5, (hb4.trans hb5).size⟩, by simp [intOf]; omega⟩
          rw [HF.out]
          rw [strCells_str, byteCells_app] at hbld4
          simpa using hbld4
      · obtain rfl : k = l.length := by omega
        rw [List.take_length] at hbld hno HN
        have HT : Hid (Pack.texts (l.map (·.data.toList)) = (Pack.be 2 l.length ++ Pack.flat (l.map (·.data.toList)), 0)) := by
          show _ = _
          rw [Pack.texts, if_neg (by simpa using hbig), if_neg (by simp [hno]), List.length_map]
        have hne : Pack.be 2 l.length ++ Pack.flat (l.map (·.data.toList)) ≠ [] := by
          intro e
          have := congrArg List.length e
          simp [Pack.be_length] at this
        obtain ⟨M, hM⟩ : ∃ M, M = Pack.be 2 l.length ++ Pack.flat (l.map (·.data.toList)) := ⟨_, rfl⟩
        rw [← hM] at HT hne hbld
        have HM := Lib.hid hM
        clear hM hno hs h
        have HS := Lib.hid (BldW.string_some w.heap.size w.heap.size M wr hbld hne)
        clear hbld hne
        go_wp2_with fail
        refine HS.out.mono ?_
        rintro e w5 ⟨rfl, hb5⟩
        go_wp2_with fail
        go_ret2
        exact ⟨by rw [HT.out]; rfl, hbel.trans hb5⟩
end Go.Proofs.Ytgmoakbmomaffaa.PackW
