/-
  The walks of PackTexts, PackBack and PackForms: true for every argument; nothing that was there is changed.
-/
import Derived.Test.YtgmoakbmomaffaaPackLaw
import Derived.Test.YtgmoakbmomaffaaPackSame
import Derived.Test.YtgmoakbmomaffaaPackBackPlain
namespace Go.Proofs.Ytgmoakbmomaffaa.PackW
open Go.RowKit Mem
set_option linter.unusedVariables false

theorem ownc_max {w : World} {base size : Nat} {A : Option Addr} {n c : Nat} {xs : List Value} (h : OwnC w base size A n c xs) : n ≤ maxLen := Nat.le_trans h.le h.max

set_option maxHeartbeats 2000000 in
set_option maxRecDepth 100000 in
theorem packTexts_walk (A : Option Addr) (n c : Nat) (l : List ByteArray) (s : ByteArray) (a : Int) (w : World) (h : Strs w A n l) (hn : n ≤ maxLen) (hs : ∀ s ∈ l, s.size ≤ maxLen) (hz : s.size ≤ maxLen) :
    Calls Try.prog 8 #[.slice A n c, .string s, .int .i64 a] w fun e w' => e = .returned (.bool true) ∧ Below w.heap.size w w' := by
  have hn' := hn
  have hz' := hz
  unfold maxLen at hn' hz'
  have hl := h.len
  subst hl
  by_cases h1 : 200 < l.length
  · go_enter Try.func8, Try.ntmps8
    go_wp2_with fail
    refine (awake_any _).mono ?_
    rintro e w1 ⟨rfl, hb1⟩
    go_wp2_with fail
    go_ret
    exact ⟨rfl, hb1⟩
  · by_cases h2 : 200000 < s.size
    · go_enter Try.func8, Try.ntmps8
      go_wp2_with fail
      refine (awake_any _).mono ?_
      rintro e w1 ⟨rfl, hb1⟩
      go_wp2_with fail
      go_ret
      exact ⟨rfl, hb1⟩
    · have HT := Lib.hid (fun w' (hb : Below w.heap.size w w') => texts_any A l.length c l w' (h.below hb) hn hs)
      have HU := Lib.hid (fun w' (hb : Below w.heap.size w w') => rtexts_any A l.length c l w' (h.below hb) hn hs)
      have HV := Lib.hid (fun w' => takeTexts_any s a w' hz)
      have HW := Lib.hid (fun w' => rtakeTexts_any s a w' hz)
      have HX := Lib.hid (fun w' => takeText_any s a w' hz)
      have HY := Lib.hid (fun w' => rtakeText_any s a w' hz)
      have HP := Lib.hid (fun w' => text_any s w' hz)
      have HQ := Lib.hid (fun w' => rtext_any s w' hz)
      generalize (Pack.texts (l.map (·.data.toList))).2 = t2 at *
      generalize str (Pack.texts (l.map (·.data.toList))).1 = t1 at *
      generalize (Pack.takeTexts s.data.toList a).2.2 = u3 at *
      generalize (Pack.takeTexts s.data.toList a).2.1 = u2 at *
      generalize (Pack.takeTexts s.data.toList a).1 = u1 at *
      generalize (Pack.takeText s.data.toList a).2.2 = v3 at *
      generalize (Pack.takeText s.data.toList a).2.1 = v2 at *
      generalize str (Pack.takeText s.data.toList a).1 = v1 at *
      generalize (Pack.text s.data.toList).2 = x2 at *
      generalize str (Pack.text s.data.toList).1 = x1 at *
      go_enter Try.func8, Try.ntmps8
      go_wp2_with fail
      go_loop [7] (fun i => ∃ k : Nat, k ≤ l.length ∧ i = .int .i64 k) (fun i => l.length - (intOf i).toNat)
      case atStart => exact ⟨0, by omega, rfl⟩
      case round =>
        obtain ⟨k, hk, rfl⟩ := hrel
        by_cases hlt : k < l.length
        · obtain ⟨b, off, x, rfl, hbl, hsk, hc⟩ := h.at_ hlt
          clear hsk h hs
          by_cases hb : 70000 < x.size
          · go_wp2_with fail
            refine (awake_any _).mono ?_
            rintro e w1 ⟨rfl, hb1⟩
            go_wp2_with fail
            go_ret
            exact ⟨rfl, hb1⟩
          · go_wp2_with fail
            exact ⟨⟨k + 1, by omega, by go_num⟩, by simp [intOf]; omega⟩
        · clear h hs
          go_wp2_with fail
          refine (HT.out _ (Below.refl _ _)).mono ?_
          rintro e w1 ⟨rfl, b1⟩
          go_wp2_with fail
          refine (HU.out _ b1).mono ?_
          rintro e w2 ⟨rfl, hb2⟩
          have b2 := below_step b1 hb2
          clear b1 hb2
          go_wp2_with fail
          refine (HV.out _).mono ?_
          rintro e w3 ⟨A3, c3, rfl, ho3, hb3⟩
          have b3 := below_step b2 hb3
          have o3 := OwnC.of_own ho3
          have m3 := ownc_max o3
          clear b2 hb3 ho3
          go_wp2_with fail
          refine (HW.out _).mono ?_
          rintro e w4 ⟨A4, c4, rfl, o4, hb4⟩
          have b4 := below_step b3 hb4
          have p3 := Txs.of_ownc (o3.below hb4)
          have p4 := Txs.of_ownc o4
          clear b3 hb4 o3 o4
          go_wp2_with fail
          refine (HX.out _).mono ?_
          rintro e w5 ⟨rfl, rfl⟩
          go_wp2_with fail
          refine (HY.out _).mono ?_
          rintro e w5 ⟨rfl, rfl⟩
          go_wp2_with fail
          refine (HP.out _).mono ?_
          rintro e w5 ⟨rfl, hb5⟩
          have b5 := below_step b4 hb5
          have q3 := p3.below hb5
          have q4 := p4.below hb5
          clear b4 hb5 p3 p4
          go_wp2_with fail
          refine (HQ.out _).mono ?_
          rintro e w6 ⟨rfl, hb6⟩
          have b6 := below_step b5 hb6
          have r3 := q3.below hb6
          have r4 := q4.below hb6
          clear b5 hb6 q3 q4
          go_wp2_with fail
          refine (same_yes _ _ _ _ _ _ _ _ _ r3 r4 m3 m3 rfl).mono ?_
          rintro e w7 ⟨rfl, d7, rfl⟩
          go_wp2_with fail
          refine (awake_any _).mono ?_
          rintro e w8 ⟨rfl, hb8⟩
          go_wp2_with fail
          go_ret
          exact ⟨rfl, below_step (below_drewN b6 d7) hb8⟩

theorem takeTexts_is (l : List (List UInt8)) (to x : Int) (s : ByteArray) (a : Int) (w : World) (h : Pack.takeTexts s.data.toList a = (l, to, x)) (hs : s.size ≤ maxLen) :
    Calls Try.prog 30 #[.string s, .int .i64 a] w (GotTexts w.heap.size l to x w) := by
  have := takeTexts_any s a w hs
  rw [h] at this
  exact this
theorem number_str (r : List UInt8) (x : Int) (n k : Int) (w : World) (h : Pack.number n k = (r, x)) (n0 : -9223372036854775808 ≤ n) (n1 : n ≤ 9223372036854775807) :
    Calls Try.prog 24 #[.int .i64 n, .int .i64 k] w fun e w' => e = .returned (.tuple #[.string (str r), .int .i64 x]) ∧ Below w.heap.size w w' := by
  have := number_any n k w n0 n1
  rw [h] at this
  exact this
theorem cat3 (p q : ByteArray) (t : List UInt8) : (p ++ str t ++ q).data.toList = p.data.toList ++ (t ++ q.data.toList) := by simp [str]

set_option maxHeartbeats 2000000 in
set_option maxRecDepth 100000 in
theorem packBack_walk (A : Option Addr) (n c : Nat) (l : List ByteArray) (p q : ByteArray) (w : World) (h : Strs w A n l) (hn : n ≤ maxLen) (hs : ∀ s ∈ l, s.size ≤ maxLen) (hp : p.size ≤ maxLen) (hq : q.size ≤ maxLen) :
    Calls Try.prog 9 #[.slice A n c, .string p, .string q] w fun e w' => e = .returned (.bool true) ∧ Below w.heap.size w w' := by
  have hn' := hn
  have hp' := hp
  have hq' := hq
  unfold maxLen at hn' hp' hq'
  have hl := h.len
  subst hl
  by_cases h1 : 100 < l.length ∨ 5000 < p.size ∨ 5000 < q.size
  · have aw : ∀ w, Calls Try.prog 23 #[] w fun e w' => e = .returned (.bool true) ∧ Below w.heap.size w w' := awake_any
    have HA := Lib.hid aw
    clear aw
    by_cases g1 : 100 < l.length
    · go_enter Try.func9, Try.ntmps9
      go_wp2_with fail
      refine (HA.out _).mono ?_
      rintro e w1 ⟨rfl, hb1⟩
      go_wp2_with fail
      go_ret
      exact ⟨rfl, hb1⟩
    · by_cases g2 : 5000 < p.size
      · go_enter Try.func9, Try.ntmps9
        go_wp2_with fail
        refine (HA.out _).mono ?_
        rintro e w1 ⟨rfl, hb1⟩
        go_wp2_with fail
        go_ret
        exact ⟨rfl, hb1⟩
      · have g3 : 5000 < q.size := by omega
        clear h1
        go_enter Try.func9, Try.ntmps9
        go_wp2_with fail
        refine (HA.out _).mono ?_
        rintro e w1 ⟨rfl, hb1⟩
        go_wp2_with fail
        go_ret
        exact ⟨rfl, hb1⟩
  · have g1 : l.length ≤ 100 := by omega
    have g2 : p.size ≤ 5000 := by omega
    have g3 : q.size ≤ 5000 := by omega
    clear h1
    have HT := Lib.hid (fun w' (hb : Below w.heap.size w w') => texts_any A l.length c l w' (h.below hb) hn hs)
    have HTx := Lib.hid (Txs.of_strs h)
    go_enter Try.func9, Try.ntmps9
    go_wp2_with fail
    go_loop [7] (fun i => ∃ k : Nat, k ≤ l.length ∧ i = .int .i64 k ∧ Hid (∀ s ∈ l.take k, s.size ≤ 60000)) (fun i => l.length - (intOf i).toNat)
    case atStart => exact ⟨0, by omega, rfl, by show ∀ s ∈ l.take 0, _; simp⟩
    case round =>
      obtain ⟨k, hk, rfl, hsm⟩ := hrel
      by_cases hlt : k < l.length
      · obtain ⟨b, off, x, rfl, hbl, hsk, hc⟩ := h.at_ hlt
        by_cases hb : 60000 < x.size
        · clear hsk h hs
          go_wp2_with fail
          refine (awake_any _).mono ?_
          rintro e w1 ⟨rfl, hb1⟩
          go_wp2_with fail
          go_ret
          exact ⟨rfl, hb1⟩
        · have HS : Hid (∀ s ∈ l.take (k + 1), s.size ≤ 60000) := by
            show ∀ s ∈ l.take (k + 1), _
            rw [take_snoc_some hsk]
            intro s hs'
            rcases List.mem_append.1 hs' with h' | h'
            · exact hsm.out s h'
            · rw [List.mem_singleton.1 h']; omega
          clear hsk h hs
          go_wp2_with fail
          exact ⟨⟨k + 1, by omega, by go_num, HS⟩, by simp [intOf]; omega⟩
      · have hall : ∀ x ∈ l.map (·.data.toList), x.length ≤ 60000 := by
          intro x hx
          obtain ⟨s, hs', rfl⟩ := List.mem_map.1 hx
          have := hsm.out s (by rw [List.take_of_length_le (by omega)]; exact hs')
          simpa using this
        obtain ⟨L, hL⟩ : ∃ L, L = l.map (·.data.toList) := ⟨_, rfl⟩
        rw [← hL] at hall HT HTx
        have hLl : L.length = l.length := by rw [hL]; simp
        have hall5 : ∀ x ∈ L, x.length ≤ 65535 := fun x hx => Nat.le_trans (hall x hx) (by omega)
        have ht := Pack.texts_back L (by omega) hall5
        have hfl := Pack.flat_le L (by
          rw [List.any_eq_false]
          intro x hx
          have := hall x hx
          simp; omega)
        have HB := Lib.hid (Pack.takeTexts_at L (by omega) hall5 p.data.toList q.data.toList)
        rw [ht] at HT
        obtain ⟨T, hT⟩ : ∃ T, T = Pack.be 2 L.length ++ Pack.flat L := ⟨_, rfl⟩
        have hTl : (str T).size ≤ 2 + 65537 * 100 := by rw [str_size, hT, List.length_append, Pack.be_length]; omega
        rw [← hT] at HT HB
        have hml : l.length ≤ maxLen := hn
        have HLl := Lib.hid hLl
        have HTl : Hid ((T.length : Int) = ((str T).size : Int)) := by show _ = _; rw [str_size]
        have HN : Hid (Pack.number (q.size : Int) 4 = (Pack.be 4 q.size, 0)) := by
          show _ = _
          have : Pack.fitB (q.size : Int) 4 = true := by simp [Pack.fitB, Pack.isW]; omega
          simp [Pack.number, this]
        have HK := Lib.hid (Pack.takeNum_at p.data.toList q.data.toList q.size 4 (by decide) (by show q.size < 256 ^ 4; omega) (by omega))
        have h4l : (str (Pack.be 4 q.size)).size ≤ 4 := by rw [str_size, Pack.be_length]; omega
        obtain ⟨N4, hN4⟩ : ∃ N4, N4 = Pack.be 4 q.size := ⟨_, rfl⟩
        rw [show (4 : Int).toNat = 4 from rfl, ← hN4] at HK
        rw [← hN4] at HN h4l
        clear hall hall5 ht hfl hT hL hs h hsm hLl hN4 hn
        go_wp2_with fail
        refine (HT.out _ (Below.refl _ _)).mono ?_
        rintro e w1 ⟨rfl, b1⟩
        go_wp2_with fail
        refine (takeTexts_is L ((p.size : Int) + T.length) 0 _ _ _ (by rw [cat3]; have := HB.out; simpa using this) (by simp [maxLen]; omega)).mono ?_
        rintro e w2 ⟨A2, c2, rfl, ho2, hb2⟩
        have b2 := below_step b1 hb2
        have o2 := OwnC.of_own ho2
        have m2 := ownc_max o2
        have p2 := Txs.of_ownc o2
        clear b1 hb2 ho2 o2
        go_wp2_with fail
        refine (number_str N4 0 _ _ _ HN.out (by omega) (by omega)).mono ?_
        rintro e w3 ⟨rfl, hb3⟩
        have b3 := below_step b2 hb3
        have p3 := p2.below hb3
        clear b2 hb3 p2
        go_wp2_with fail
        refine (takeNum_is (q.size : Int) ((p.size : Int) + 4) 0 _ _ _ _ (by rw [cat3]; have := HK.out; simpa using this) (by simp [maxLen]; omega)).mono ?_
        rintro e w4 ⟨rfl, rfl⟩
        go_wp2_with fail
        refine (same_yes _ _ _ _ _ _ _ _ _ p3 (Txs.below HTx.out b3) m2 hml rfl).mono ?_
        rintro e w7 ⟨rfl, d7, rfl⟩
        have hTe : (((p.size : Int) + (T.length : Int)) == ((p.size : Int) + ((str T).size : Int))) = true := by rw [HTl.out]; simp
        go_wp2_with fail
        refine (awake_any _).mono ?_
        rintro e w8 ⟨rfl, hb8⟩
        go_wp2_with fail
        go_ret
        exact ⟨rfl, below_step (below_drewN b3 d7) hb8⟩
end Go.Proofs.Ytgmoakbmomaffaa.PackW
