/-
  Contracts of musterref03.Texts, TakeTexts, Same.
-/
import Derived.Test.YtgmoakbmomaffaaPackTake
import Derived.Test.YtgmoakbmomaffaaOwnC
namespace Go.Proofs.Ytgmoakbmomaffaa.PackW
open Go.RowKit Mem
set_option linter.unusedVariables false

theorem bytes_bv (s : ByteArray) : Go.byteCells s = bv s.data.toList := rfl

def RTextsRel (w : World) (l : List ByteArray) (o i : Value) (wr : World) : Prop :=
  ∃ (k : Nat) (A : Option Addr) (c : Nat), k ≤ l.length ∧ i = .int .i64 k ∧ o = .slice A (Pack.be 2 l.length ++ Pack.flat ((l.take k).map (·.data.toList))).length c ∧
    ((l.take k).map (·.data.toList)).any (fun s => decide (65535 < s.length)) = false ∧
    OwnC wr w.heap.size 1 A (Pack.be 2 l.length ++ Pack.flat ((l.take k).map (·.data.toList))).length c (bv (Pack.be 2 l.length ++ Pack.flat ((l.take k).map (·.data.toList)))) ∧ Below w.heap.size w wr

set_option maxHeartbeats 1000000 in
set_option maxRecDepth 100000 in
theorem rtexts_any (A : Option Addr) (n c : Nat) (l : List ByteArray) (w : World) (h : Strs w A n l) (hn : n ≤ maxLen) (hs : ∀ s ∈ l, s.size ≤ maxLen) :
    Calls Try.prog 29 #[.slice A n c] w fun e w' => e = .returned (.tuple #[.string (str (Pack.texts (l.map (·.data.toList))).1), .int .i64 (Pack.texts (l.map (·.data.toList))).2]) ∧ Below w.heap.size w w' := by
  obtain ⟨i0, hi, hz0, hz1, hz2⟩ := info_parts byte_info
  unfold maxLen at hn
  have hl := h.len
  subst hl
  by_cases hbig : 65535 < l.length
  · have HT : Hid (Pack.texts (l.map (·.data.toList)) = ([], 3)) := by show _ = _; simp [Pack.texts, hbig]
    go_enter Try.func29, Try.ntmps29
    go_wp2_with fail
    go_ret2
    exact ⟨by rw [HT.out]; rfl, Below.refl _ _⟩
  · have hC := rnumber_any (l.length : Int) 2 w (by omega) (by omega)
    have hN : Pack.number (l.length : Int) 2 = (Pack.be 2 l.length, 0) := by
      have : Pack.fitB (l.length : Int) 2 = true := by simp [Pack.fitB, Pack.isW]; omega
      simp [Pack.number, this]
    rw [hN] at hC
    have HC := Lib.hid hC
    clear hC hN
    go_enter Try.func29, Try.ntmps29
    go_wp2_with fail
    refine HC.out.mono ?_
    rintro e w1 ⟨rfl, hb1⟩
    obtain ⟨A1, c1, w2, hrun, hb2, hown⟩ := to_bytes_own (P := Try.prog) 9 33 5 (str (Pack.be 2 l.length)) Try.underlying9 Try.underlying33 Try.underlying5 w1 (by rw [str_size, Pack.be_length]; simp [maxLen])
    rw [str_size, str_data] at hown
    rw [str_size] at hrun
    have hb3 := below_step hb1 hb2
    have hown3 := hown.mono hb1.size
    clear hb1 hb2 hown
    go_wp2_with fail
    clear hrun
    go_loopw [6, 7] (fun o i wr => RTextsRel w l o i wr) (fun _ i _ => l.length - (intOf i).toNat)
    case atStart =>
      refine ⟨0, A1, c1, by omega, rfl, ?_, by simp, ?_, hb3⟩
      · simp [Pack.flat]
      · simpa [Pack.flat] using hown3
    case round =>
      clear hown3 hb3
      obtain ⟨k, A2, c2, hk, rfl, rfl, hno, hown, hbel⟩ := hrel
      have HN := Lib.hid hno
      by_cases hlt : k < l.length
      · obtain ⟨b, off, s, rfl, hbl, hsk, hc⟩ := (h.below hbel).at_ hlt
        have hsm := mem_of_at hsk
        have hsz' := hs s hsm
        have hts := take_snoc_some hsk
        have HX := Lib.hid (rtext_any s wr hsz')
        by_cases hsb : 65535 < s.size
        · have HT : Hid (Pack.texts (l.map (·.data.toList)) = ([], 3)) := texts_big (List.mem_map_of_mem hsm) (by simpa using hsb)
          have hx : Pack.text s.data.toList = ([], 3) := text_big (by simpa using hsb)
          rw [hx] at HX
          clear hx hts hsk hno hs h hown
          go_wp2_with fail
          refine HX.out.mono ?_
          rintro e w3 ⟨rfl, hb3⟩
          go_wp2_with fail
          go_ret2
          exact ⟨by rw [HT.out]; rfl, below_step hbel hb3⟩
        · have hx : Pack.text s.data.toList = (Pack.be 2 s.size ++ s.data.toList, 0) := by rw [text_small (by simpa using hsb)]; simp
          rw [hx] at HX
          have hfl := Pack.flat_le ((l.take k).map (·.data.toList)) hno
          rw [List.length_map, List.length_take] at hfl
          have HF : Hid (Pack.be 2 l.length ++ Pack.flat ((l.take (k + 1)).map (·.data.toList)) = (Pack.be 2 l.length ++ Pack.flat ((l.take k).map (·.data.toList))) ++ (Pack.be 2 s.size ++ s.data.toList)) := by
            show _ = _
            rw [hts, List.map_append, List.map_cons, List.map_nil, Pack.flat_snoc]
            simp
          have HNo : Hid (((l.take (k + 1)).map (·.data.toList)).any (fun s => decide (65535 < s.length)) = false) := by
            show _ = _
            rw [hts, List.map_append, List.any_append, hno]
            simpa using hsb
          have hML : (Pack.be 2 l.length ++ Pack.flat ((l.take k).map (·.data.toList))).length ≤ 2 + 65537 * min k l.length := by rw [List.length_append, Pack.be_length]; omega
          obtain ⟨M, hM⟩ : ∃ M, M = Pack.be 2 l.length ++ Pack.flat ((l.take k).map (·.data.toList)) := ⟨_, rfl⟩
          rw [← hM] at hown HF hML
          rw [← hM]
          have HM := Lib.hid hM
          clear hx hts hsk hno hs h hM hfl
          go_wp2_with fail
          refine HX.out.mono ?_
          rintro e w3 ⟨rfl, hb3⟩
          have hown3 := hown.below hb3
          have hb4 := below_step hbel hb3
          clear hown hb3 hbel
          obtain ⟨A3, c3, W4, hrun, hown4, hb5, _, _⟩ := app_c (P := Try.prog) w3 w.heap.size 33 9 33 5 i0 _ 1 1 Try.underlying33 hi hz0 hz1 hz2 rfl (by omega) A2 _ c2 _ hown3 (.string (str (Pack.be 2 s.size ++ s.data.toList))) _ _ (Src.ofString w3 Try.underlying9 (str (Pack.be 2 s.size ++ s.data.toList))) (by rw [str_size]; simp [maxLen, Pack.be_length]; omega) (by rw [str_size]; simp [Pack.be_length]; omega) hb4.size
          rw [bytes_bv, str_data, ← bv_append] at hown4
          have hl5 : M.length + (str (Pack.be 2 s.size ++ s.data.toList)).size = (M ++ (Pack.be 2 s.size ++ s.data.toList)).length := by rw [str_size]; simp
          rw [hl5] at hown4 hrun
          obtain ⟨L, hL⟩ : ∃ L, L = (M ++ (Pack.be 2 s.size ++ s.data.toList)).length := ⟨_, rfl⟩
          rw [← hL] at hown4 hrun
          have HLL := Lib.hid hL
          have HR := Lib.hid hrun
          clear hrun hl5 hL
          go_wp2_with (at_builtin; refine wpList_app2 rfl _ _ rfl rfl rfl HR.out ?_)
          refine ⟨⟨k + 1, A3, c3, by omega, by go_num, by rw [HF.out, ← HLL.out], HNo.out, by rw [HF.out, ← HLL.out]; exact hown4, hb4.trans hb5⟩, by simp [intOf]; omega⟩
      · obtain rfl : k = l.length := by omega
        rw [List.take_length] at hown hno HN
        rw [List.take_length]
        have HT : Hid (Pack.texts (l.map (·.data.toList)) = (Pack.be 2 l.length ++ Pack.flat (l.map (·.data.toList)), 0)) := by
          show _ = _
          rw [Pack.texts, if_neg (by simpa using hbig), if_neg (by simp [hno]), List.length_map]
        obtain ⟨M, hM⟩ : ∃ M, M = Pack.be 2 l.length ++ Pack.flat (l.map (·.data.toList)) := ⟨_, rfl⟩
        rw [← hM] at HT hown
        rw [← hM]
        have HM := Lib.hid hM
        clear hM hno hs h
        have hback := ownc_back (P := Try.prog) hown 33 9 Try.underlying33 Try.underlying5 Try.underlying9
        clear hown
        go_wp2_with fail
        go_ret2
        exact ⟨by rw [HT.out]; rfl, hbel⟩

/-- the state of the document's taking: all is well so far, or it has failed -/
def RTakeTextsRel (w : World) (s : ByteArray) (N : Nat) (to0 : Int) (t e o i : Value) (wr : World) : Prop :=
  Below w.heap.size w wr ∧ ∃ (k : Nat), k ≤ N ∧ i = .int .i64 k ∧
    ((∃ (to : Int) (l : List (List UInt8)) (A : Option Addr) (c : Nat), t = .int .i64 to ∧ e = .int .i64 0 ∧ o = .slice A l.length c ∧ l.length = k ∧ Pack.takeFold s.data.toList N to0 [] = Pack.takeFold s.data.toList (N - k) to l ∧
        OwnC wr w.heap.size 1 A l.length c (sv l)) ∨
     (∃ x : Int, x ≠ 0 ∧ e = .int .i64 x ∧ Pack.takeFold s.data.toList N to0 [] = ([], 0, x)))

/-- a slice of texts of the call's own, with a place and an error (told by its cells) -/
def GotTextsC (base : Nat) (l : List (List UInt8)) (to e : Int) (w : World) (x : Ending) (w' : World) : Prop :=
  ∃ A c, x = .returned (.tuple #[.slice A l.length c, .int .i64 to, .int .i64 e]) ∧ OwnC w' base 1 A l.length c (sv l) ∧ Below w.heap.size w w'

set_option maxHeartbeats 1000000 in
set_option maxRecDepth 100000 in
theorem rtakeTexts_any (s : ByteArray) (a : Int) (w : World) (hs : s.size ≤ maxLen) :
    Calls Try.prog 31 #[.string s, .int .i64 a] w
      (GotTextsC w.heap.size (Pack.takeTexts s.data.toList a).1 (Pack.takeTexts s.data.toList a).2.1 (Pack.takeTexts s.data.toList a).2.2 w) := by
  obtain ⟨i0, hi, hz0, hz1, hz2⟩ := info_parts strInfo
  have hs' := hs
  unfold maxLen at hs'
  have HC := Lib.hid (fun w => rtakeNum_any s a 2 w hs)
  have hlen : s.data.toList.length = s.size := by simp
  have hbd := takeNum_bd s.data.toList a 2 (by omega)
  have hb2 := takeNum2_bd s.data.toList a
  obtain ⟨n, to, e, hT⟩ : ∃ n to e, Pack.takeNum s.data.toList a 2 = (n, to, e) := ⟨_, _, _, rfl⟩
  rw [hT] at HC hbd hb2
  simp only [hlen] at hbd
  simp only at hb2
  obtain ⟨n0, t0, t1, _⟩ := hbd
  obtain ⟨N, rfl⟩ := Int.eq_ofNat_of_zero_le n0
  by_cases he : e = 0
  · subst he
    have HT : Hid (Pack.takeTexts s.data.toList a = Pack.takeFold s.data.toList N to []) := by
      show _ = _
      simp [Pack.takeTexts, hT]
    clear hT hlen
    go_enter Try.func31, Try.ntmps31
    go_wp2_with fail
    refine (HC.out _).mono ?_
    rintro e w1 ⟨rfl, rfl⟩
    go_wp2_with fail
    go_loopw [8, 9, 10, 11] (fun t e o i wr => RTakeTextsRel w s N to t e o i wr) (fun _ _ _ i _ => N - (intOf i).toNat)
    case atStart => exact ⟨Below.refl _ _, 0, by omega, rfl, .inl ⟨to, [], none, 0, rfl, rfl, rfl, rfl, by simp, OwnC.nil _ _ _⟩⟩
    case round =>
      obtain ⟨hbel, k, hk, rfl, h | h⟩ := hrel
      · obtain ⟨to1, l, A, c, rfl, rfl, rfl, hl, hf, hown⟩ := h
        by_cases hlt : k < N
        · obtain ⟨m, hm⟩ : ∃ m, N - k = m + 1 := ⟨N - k - 1, by omega⟩
          rw [hm, Pack.takeFold] at hf
          have HX := Lib.hid (rtakeText_any s to1 wr hs)
          have HF := Lib.hid hf
          have HM := Lib.hid hm
          have HL := Lib.hid hl
          obtain ⟨A3, c3, W4, hrun, hown4, hb5, _, _⟩ := app_c (P := Try.prog) (wr.alloc (.cells #[.string (str (Pack.takeText s.data.toList to1).1)] 9)) w.heap.size 22 22 22 9 i0 _ 1 16 Try.underlying22 hi hz0 hz1 hz2 rfl (by omega) A _ c _ (hown.alloc _) _ 1 [.string (str (Pack.takeText s.data.toList to1).1)] (Src.ofSlice _ Try.underlying22 _ 1 1 _ rfl (cell_one_new wr _ 9) (by simp; rfl)) (by simp [maxLen]; omega) (by omega) (by have := hbel.size; simp; omega)
          rw [← sv_snoc] at hown4
          have hb6 := (hbel.alloc hbel.size (.cells #[.string (str (Pack.takeText s.data.toList to1).1)] 9)).trans hb5
          have HR := Lib.hid hrun
          clear hf hm hrun hb5
          have hll : l.length < 65536 := by omega
          clear hl
          generalize (Pack.takeText s.data.toList to1).2.1 = to2 at *
          generalize (Pack.takeText s.data.toList to1).2.2 = e2 at *
          generalize (Pack.takeText s.data.toList to1).1 = t at *
          go_wp2_with fail
          refine HX.out.mono ?_
          rintro x w3 ⟨rfl, rfl⟩
          go_wp2_with (at_builtin; refine wpList_app2 rfl _ _ rfl rfl rfl HR.out ?_)
          refine ⟨⟨hb6, k + 1, by omega, by go_num, ?_⟩, by simp [intOf]; omega⟩
          by_cases he : e2 = 0
          · subst he
            refine .inl ⟨to2, l ++ [t], A3, c3, rfl, rfl, by simp, by rw [List.length_append, HL.out]; rfl, ?_, by simpa using hown4⟩
            rw [HF.out, if_pos rfl, show N - (k + 1) = m by have := HM.out; omega]
          · exact .inr ⟨e2, he, rfl, by rw [HF.out, if_neg he]⟩
        · obtain rfl : k = N := by omega
          rw [Nat.sub_self, Pack.takeFold] at hf
          have HF := Lib.hid hf
          have HL := Lib.hid hl
          clear hl hf
          go_wp2_with fail
          go_ret3
          rw [HT.out, HF.out]
          exact ⟨A, c, rfl, hown, hbel⟩
      · obtain ⟨x, hx, rfl, hf⟩ := h
        have HF := Lib.hid hf
        have hx1 : (x == 0) = false := by simpa using hx
        have hx2 : (x != 0) = true := by simpa using hx
        clear hf hx
        by_cases hlt : k < N
        all_goals
          go_wp2_with fail
          go_ret3
          rw [HT.out, HF.out]
          exact ⟨none, 0, rfl, OwnC.nil _ _ _, hbel⟩
  · have HT : Hid (Pack.takeTexts s.data.toList a = ([], 0, e)) := by
      show _ = _
      simp [Pack.takeTexts, hT, he]
    have he' : (e != 0) = true := by simpa using he
    have he2 : (e == 0) = false := by simpa using he
    clear hT hlen he
    go_enter Try.func31, Try.ntmps31
    go_wp2_with fail
    refine (HC.out _).mono ?_
    rintro e w1 ⟨rfl, rfl⟩
    go_wp2_with fail
    go_loopw [9, 11] (fun x i wr => x = .int .i64 e ∧ i = .int .i64 0 ∧ Below w.heap.size w wr) (fun _ _ _ => 0)
    case atStart => exact ⟨rfl, rfl, Below.refl _ _⟩
    case round =>
      obtain ⟨rfl, rfl, hbel⟩ := hrel
      by_cases hlt : 0 < N
      all_goals
        go_wp2_with fail
        go_ret3
        rw [HT.out]
        exact ⟨none, 0, rfl, OwnC.nil _ _ _, hbel⟩
end Go.Proofs.Ytgmoakbmomaffaa.PackW
