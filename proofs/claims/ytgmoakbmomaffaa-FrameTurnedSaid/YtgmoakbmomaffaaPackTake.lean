/-
  Contracts of muster/pack.TakeTexts and its inner function, and of musterref03.TakeTexts, Texts, Same.
-/
import Derived.Test.YtgmoakbmomaffaaPackTexts
namespace Go.Proofs.Ytgmoakbmomaffaa.PackW
open Go.RowKit Mem
set_option linter.unusedVariables false

theorem strInfo : (Try.prog.info? 9).map (fun i => (i.zero, i.size, i.bytes)) = some (some (.string ByteArray.empty), 1, 16) := by kernel_rfl

/-- texts as cells -/
def sv (l : List (List UInt8)) : List Value := l.map fun x => .string (str x)
theorem sv_length (l : List (List UInt8)) : (sv l).length = l.length := by simp [sv]
theorem sv_snoc (l : List (List UInt8)) (x : List UInt8) : sv (l ++ [x]) = sv l ++ [.string (str x)] := by simp [sv]

/-- the four variables of TakeTexts, and what was taken so far -/
structure TT (b0 b1 b2 b3 : Nat) (s : ByteArray) (to e : Int) (l : List (List UInt8)) (A : Option Addr) (c : Nat) (w : World) : Prop where
  k0 : Blk w b0 9 #[.string s]
  k1 : Blk w b1 3 #[.int .i64 to]
  k2 : Blk w b2 35 #[.int .i64 e]
  k3 : Blk w b3 22 #[.slice A l.length c]
  own : w.ownsRow (b3 + 1) 9 1 (.slice A l.length c) l.length (sv l)

def NextPost (b0 b1 b2 b3 : Nat) (s : ByteArray) (to e : Int) (l : List (List UInt8)) (r : Bool) (w : World) (x : Ending) (w' : World) : Prop :=
  ∃ A c, x = .returned (.bool r) ∧ TT b0 b1 b2 b3 s to e l A c w' ∧ Below b1 w w'

set_option maxHeartbeats 1000000 in
set_option maxRecDepth 100000 in
theorem next_ok (b0 b1 b2 b3 : Nat) (s : ByteArray) (to e : Int) (l : List (List UInt8)) (A : Option Addr) (c : Nat) (w : World) (h : TT b0 b1 b2 b3 s to e l A c w) (h01 : b0 < b1) (h12 : b1 < b2) (h23 : b2 < b3)
    (hs : s.size ≤ maxLen) (hl : l.length < 65536) (hok : (Pack.takeText s.data.toList to).2.2 = 0) :
    Calls Try.prog 55 #[.pointer (some ⟨b0, 0, none⟩), .pointer (some ⟨b1, 0, none⟩), .pointer (some ⟨b2, 0, none⟩), .pointer (some ⟨b3, 0, none⟩)] w
      (NextPost b0 b1 b2 b3 s (Pack.takeText s.data.toList to).2.1 0 (l ++ [(Pack.takeText s.data.toList to).1]) true w) := by
  obtain ⟨i0, hi, hz0, hz1, hz2⟩ := info_parts strInfo
  have HC := Lib.hid (takeText_any s to w hs)
  rw [hok] at HC
  generalize (Pack.takeText s.data.toList to).2.1 = to' at *
  generalize (Pack.takeText s.data.toList to).1 = t at *
  clear hok
  have c0 := cell_of_one h.k0
  have c1 := cell_of_one h.k1
  have f1 := free_of_one h.k1
  have c2 := cell_of_one h.k2
  have f2 := free_of_one h.k2
  have c3 := cell_of_one h.k3
  have f3 := free_of_one h.k3
  have l3 := h.k3.lt
  have n12 : b1 ≠ b2 := by omega
  have n13 : b1 ≠ b3 := by omega
  have n23 : b2 ≠ b3 := by omega
  have hownS := (ownsRow_setCell_below (ownsRow_setCell_below h.own (a := ⟨b1, 0, none⟩) (by show b1 < b3 + 1; omega) (.int .i64 to')) (a := ⟨b2, 0, none⟩) (by show b2 < b3 + 1; omega) (.int .i64 0)).alloc (.cells #[.string (str t)] 9)
  obtain ⟨A', c', W', hrun, hown2, hgr, hbel2, _⟩ := app_own (P := Try.prog) _ (b3 + 1) 22 22 9 i0 _ 1 16 Try.underlying22 hi hz0 hz1 hz2 rfl (by omega) _ _ _ _ hownS _ 1 1 _ (Rd.one _ (.string (str t)) 9) (by simp) (by simp; rfl) (by simp [maxLen]; omega) (by omega) (by simp; omega)
  rw [← sv_snoc] at hown2
  have K0 : Blk W' b0 9 #[.string s] := ((((h.k0.far (p := ⟨b1, 0, none⟩) (by show b0 ≠ b1; omega) _).far (p := ⟨b2, 0, none⟩) (by show b0 ≠ b2; omega) _).alloc _)).below hbel2 (by omega)
  have K1 : Blk W' b1 3 #[.int .i64 to'] := ((((h.k1.set 0 (.int .i64 to'))).far (p := ⟨b2, 0, none⟩) (by show b1 ≠ b2; omega) _).alloc _).below hbel2 (by omega)
  have K2 : Blk W' b2 35 #[.int .i64 0] := (((h.k2.far (p := ⟨b1, 0, none⟩) (by show b2 ≠ b1; omega) _).set 0 (.int .i64 0)).alloc _).below hbel2 (by omega)
  have K3 : Blk W' b3 22 #[.slice A l.length c] := (((h.k3.far (p := ⟨b1, 0, none⟩) (by show b3 ≠ b1; omega) _).far (p := ⟨b2, 0, none⟩) (by show b3 ≠ b2; omega) _).alloc _).below hbel2 (by omega)
  have HB : Hid (Below b1 w W') := ((((Below.refl b1 w).setCell (p := ⟨b1, 0, none⟩) (Nat.le_refl _) _).setCell (p := ⟨b2, 0, none⟩) (by show b1 ≤ b2; omega) _).alloc (by simp; omega) _).trans (hbel2.mono (by omega))
  have d2 := cell_of_one K2
  have d3 := cell_of_one K3
  have g3 := free_of_one K3
  have HR := Lib.hid hrun
  clear hrun hgr hbel2 hownS
  simp only [World.size_setCell] at HR
  go_enter Try.func55, Try.ntmps55
  go_wp2_with fail
  refine HC.out.mono ?_
  rintro x w1 ⟨rfl, rfl⟩
  go_wp2_with (at_builtin; refine wpList_app rfl _ _ rfl rfl rfl HR.out ?_)
  go_ret
  have hll : (l ++ [t]).length = l.length + 1 := by simp
  refine ⟨A', c', rfl, ⟨K0.far (p := ⟨b3, 0, none⟩) (by show b0 ≠ b3; omega) _, K1.far (p := ⟨b3, 0, none⟩) (by show b1 ≠ b3; omega) _, K2.far (p := ⟨b3, 0, none⟩) (by show b2 ≠ b3; omega) _, ?_, ?_⟩, HB.out.setCell (p := ⟨b3, 0, none⟩) (by show b1 ≤ b3; omega) _⟩
  · rw [hll]; exact K3.set 0 _
  · rw [hll]; exact ownsRow_setCell_below hown2 (a := ⟨b3, 0, none⟩) (by show b3 < b3 + 1; omega) _

set_option maxHeartbeats 1000000 in
set_option maxRecDepth 100000 in
theorem next_no (b0 b1 b2 b3 : Nat) (s : ByteArray) (to e : Int) (l : List (List UInt8)) (A : Option Addr) (c : Nat) (w : World) (h : TT b0 b1 b2 b3 s to e l A c w) (h01 : b0 < b1) (h12 : b1 < b2) (h23 : b2 < b3)
    (hs : s.size ≤ maxLen) (hok : (Pack.takeText s.data.toList to).2.2 ≠ 0) :
    Calls Try.prog 55 #[.pointer (some ⟨b0, 0, none⟩), .pointer (some ⟨b1, 0, none⟩), .pointer (some ⟨b2, 0, none⟩), .pointer (some ⟨b3, 0, none⟩)] w
      (NextPost b0 b1 b2 b3 s (Pack.takeText s.data.toList to).2.1 (Pack.takeText s.data.toList to).2.2 l false w) := by
  have HC := Lib.hid (takeText_any s to w hs)
  generalize (Pack.takeText s.data.toList to).2.1 = to' at *
  generalize (Pack.takeText s.data.toList to).2.2 = e' at *
  generalize (Pack.takeText s.data.toList to).1 = t at *
  have he : (e' == 0) = false := by simpa using hok
  clear hok
  have c0 := cell_of_one h.k0
  have c1 := cell_of_one h.k1
  have f1 := free_of_one h.k1
  have c2 := cell_of_one h.k2
  have f2 := free_of_one h.k2
  have n12 : b1 ≠ b2 := by omega
  go_enter Try.func55, Try.ntmps55
  go_wp2_with fail
  refine HC.out.mono ?_
  rintro x w1 ⟨rfl, rfl⟩
  go_wp2_with fail
  go_ret
  refine ⟨A, c, rfl, ⟨(h.k0.far (p := ⟨b1, 0, none⟩) (by show b0 ≠ b1; omega) _).far (p := ⟨b2, 0, none⟩) (by show b0 ≠ b2; omega) _, (h.k1.set 0 _).far (p := ⟨b2, 0, none⟩) (by show b1 ≠ b2; omega) _, (h.k2.far (p := ⟨b1, 0, none⟩) (by show b2 ≠ b1; omega) _).set 0 _, (h.k3.far (p := ⟨b1, 0, none⟩) (by show b3 ≠ b1; omega) _).far (p := ⟨b2, 0, none⟩) (by show b3 ≠ b2; omega) _, ?_⟩, ((Below.refl b1 w).setCell (p := ⟨b1, 0, none⟩) (Nat.le_refl _) _).setCell (p := ⟨b2, 0, none⟩) (by show b1 ≤ b2; omega) _⟩
  exact ownsRow_setCell_below (ownsRow_setCell_below h.own (a := ⟨b1, 0, none⟩) (by show b1 < b3 + 1; omega) _) (a := ⟨b2, 0, none⟩) (by show b2 < b3 + 1; omega) _

theorem own_mono {w : World} {base base' : Nat} {e : TypeId} {size : Nat} {v : Value} {n : Nat} {xs : List Value} (h : w.ownsRow base e size v n xs) (hb : base' ≤ base) : w.ownsRow base' e size v n xs := by
  refine ⟨h.1, h.2.imp id ?_⟩
  rintro ⟨g, cap, cur, hv, hg, r⟩
  exact ⟨g, cap, cur, hv, by omega, r⟩

/-- a slice of texts of the call's own, with a place and an error -/
def GotTexts (base : Nat) (l : List (List UInt8)) (to e : Int) (w : World) (x : Ending) (w' : World) : Prop :=
  ∃ A c, x = .returned (.tuple #[.slice A l.length c, .int .i64 to, .int .i64 e]) ∧ w'.ownsRow base 9 1 (.slice A l.length c) l.length (sv l) ∧ Below w.heap.size w w'

def TakeTextsRel (w : World) (s : ByteArray) (N : Nat) (to0 : Int) (i : Value) (wr : World) : Prop :=
  ∃ (k : Nat) (to : Int) (l : List (List UInt8)) (A : Option Addr) (c : Nat), k ≤ N ∧ i = .int .i64 k ∧ l.length = k ∧ Pack.takeFold s.data.toList N to0 [] = Pack.takeFold s.data.toList (N - k) to l ∧
    TT w.heap.size (w.heap.size + 1) (w.heap.size + 1 + 1) (w.heap.size + 1 + 1 + 1) s to 0 l A c wr ∧ Below w.heap.size w wr

set_option maxHeartbeats 1000000 in
set_option maxRecDepth 100000 in
theorem takeTexts_any (s : ByteArray) (a : Int) (w : World) (hs : s.size ≤ maxLen) :
    Calls Try.prog 30 #[.string s, .int .i64 a] w
      (GotTexts w.heap.size (Pack.takeTexts s.data.toList a).1 (Pack.takeTexts s.data.toList a).2.1 (Pack.takeTexts s.data.toList a).2.2 w) := by
  have hs' := hs
  unfold maxLen at hs'
  have HC := Lib.hid (fun w => takeNum_any s a 2 w hs)
  have hlen : s.data.toList.length = s.size := by simp
  have hbd := takeNum_bd s.data.toList a 2 (by omega)
  have hb2 := takeNum2_bd s.data.toList a
  obtain ⟨n, to, e, hT⟩ : ∃ n to e, Pack.takeNum s.data.toList a 2 = (n, to, e) := ⟨_, _, _, rfl⟩
  rw [hT] at HC hbd hb2
  simp only [hlen] at hbd
  simp only at hb2
  obtain ⟨n0, t0, t1, _⟩ := hbd
  obtain ⟨N, rfl⟩ := Int.eq_ofNat_of_zero_le n0
  by_cases he : e = 0
  · subst he
    have HT : Hid (Pack.takeTexts s.data.toList a = Pack.takeFold s.data.toList N to []) := by
      show _ = _
      simp [Pack.takeTexts, hT]
    clear hT hlen
    go_enter Try.func30, Try.ntmps30
    go_wp2_with fail
    refine (HC.out _).mono ?_
    rintro e w1 ⟨rfl, rfl⟩
    go_wp2_with fail
    go_loopw [24] (fun i wr => TakeTextsRel w s N to i wr) (fun i _ => N - (intOf i).toNat)
    case atStart =>
      refine ⟨0, to, [], none, 0, by omega, rfl, rfl, by simp, ⟨?_, ?_, ?_, ?_, World.ownsRow_nil _ _ _ _⟩, ?_⟩
      · exact (((Blk.new w _ _).alloc _).alloc _).alloc _
      · have := (((Blk.new (w.alloc (.cells #[.string s] 9)) 3 #[.int .i64 to])).alloc (.cells #[.int .i64 0] 35)).alloc (.cells #[.slice none 0 0] 22)
        simpa using this
      · have := ((Blk.new ((w.alloc (.cells #[.string s] 9)).alloc (.cells #[.int .i64 to] 3)) 35 #[.int .i64 0])).alloc (.cells #[.slice none 0 0] 22)
        simpa using this
      · have := (Blk.new (((w.alloc (.cells #[.string s] 9)).alloc (.cells #[.int .i64 to] 3)).alloc (.cells #[.int .i64 0] 35)) 22 #[.slice none 0 0])
        simpa using this
      · exact ((((Below.refl _ _).alloc (Nat.le_refl _) _).alloc (by simp) _).alloc (by simp; omega) _).alloc (by simp; omega) _
    case round =>
      obtain ⟨k, to1, l, A, c, hk, rfl, hl, hf, htt, hbel⟩ := hrel
      by_cases hlt : k < N
      · obtain ⟨m, hm⟩ : ∃ m, N - k = m + 1 := ⟨N - k - 1, by omega⟩
        rw [hm, Pack.takeFold] at hf
        by_cases hok : (Pack.takeText s.data.toList to1).2.2 = 0
        · rw [if_pos hok] at hf
          have HN := Lib.hid (next_ok _ _ _ _ s to1 0 l A c wr htt (by omega) (by omega) (by omega) hs (by omega) hok)
          have HF := Lib.hid hf
          clear hf htt hok
          generalize (Pack.takeText s.data.toList to1).2.1 = to2 at *
          generalize (Pack.takeText s.data.toList to1).1 = t at *
          have HL := Lib.hid hl
          have HM := Lib.hid hm
          clear hl hm
          go_wp2_with fail
          refine HN.out.mono ?_
          rintro x w3 ⟨A', c', rfl, htt2, hb2⟩
          go_wp2_with fail
          refine ⟨⟨k + 1, to2, l ++ [t], A', c', by omega, by go_num, by rw [List.length_append, HL.out]; rfl, ?_, htt2, hbel.trans (hb2.mono (by omega))⟩, by simp [intOf]; omega⟩
          rw [HF.out, show N - (k + 1) = m by have := HM.out; omega]
        · rw [if_neg hok] at hf
          have HN := Lib.hid (next_no _ _ _ _ s to1 0 l A c wr htt (by omega) (by omega) (by omega) hs hok)
          have HF := Lib.hid hf
          clear hf htt hok hl hm
          generalize (Pack.takeText s.data.toList to1).2.1 = to2 at *
          generalize (Pack.takeText s.data.toList to1).2.2 = e2 at *
          go_wp2_with fail
          refine HN.out.mono ?_
          rintro x w3 ⟨A', c', rfl, htt2, hb2⟩
          have c2 := cell_of_one htt2.k2
          go_wp2_with fail
          go_quiet (fail)
          go_wp2_with fail
          go_ret3
          rw [HT.out, HF.out]
          exact ⟨none, 0, rfl, World.ownsRow_nil _ _ _ _, below_drewN (hbel.trans (hb2.mono (by omega))) _⟩
      · obtain rfl : k = N := by omega
        rw [Nat.sub_self, Pack.takeFold] at hf
        have HF := Lib.hid hf
        have c1 := cell_of_one htt.k1
        have c3 := cell_of_one htt.k3
        have HL := Lib.hid hl
        clear hl hf
        go_wp2_with fail
        go_quiet (fail)
        go_wp2_with fail
        go_ret3
        rw [HT.out, HF.out]
        exact ⟨A, c, rfl, own_mono htt.own (by omega), below_drewN hbel _⟩
  · have HT : Hid (Pack.takeTexts s.data.toList a = ([], 0, e)) := by
      show _ = _
      simp [Pack.takeTexts, hT, he]
    have he' : (e != 0) = true := by simpa using he
    have he2 : (e == 0) = false := by simpa using he
    clear hT hlen he
    go_enter Try.func30, Try.ntmps30
    go_wp2_with fail
    refine (HC.out _).mono ?_
    rintro e w1 ⟨rfl, rfl⟩
    go_wp2_with fail
    go_quiet (fail)
    go_wp2_with fail
    go_ret3
    rw [HT.out]
    exact ⟨none, 0, rfl, World.ownsRow_nil _ _ _ _, below_drewN ((((Below.refl _ _).alloc (Nat.le_refl _) _).alloc (by simp) _).alloc (by simp; omega) _) _⟩
end Go.Proofs.Ytgmoakbmomaffaa.PackW
