/-
  The walk of StoreLoads.
-/
import Derived.Test.YtdhnegcblnpmfaaStoreLoads
namespace Go.Proofs.Ytdhnegcblnpmfaa.StorW
open Go.RowKit Mem Stor
set_option linter.unusedVariables false

def LP (l : List (List UInt8)) : Sto := ⟨l, false, 0, 0, 0⟩
theorem lp_ok {l : List (List UInt8)} (h : goodL l) : (LP l).Ok := ⟨h.1, h.2.1, h.2.2, by simp [LP], by simp [LP], by simp [LP], by simp [LP], by simp [LP]⟩

set_option maxHeartbeats 2000000 in
set_option maxRecDepth 100000 in
theorem storeLoads_walk (A : Option Addr) (n c : Nat) (l : List ByteArray) (i : Int) (w : World) (h : Strs w A n l) (hm : n ≤ maxLen) (hz : ∀ s ∈ l, s.size ≤ maxLen) :
    Calls Try.prog 7 #[.slice A n c, .int .i64 i] w fun e w' => e = .returned (.bool true) ∧ Below w.heap.size w w' := by
  unfold maxLen at hm
  have HA := Lib.hid awake_any
  by_cases hn : 500 < n
  · clear h hz
    go_enter Try.func7, Try.ntmps7
    go_wp2_with fail
    refine (HA.out _).mono ?_
    rintro e w1 ⟨rfl, hb1⟩
    go_wp2_with fail
    go_ret
    exact ⟨rfl, hb1⟩
  · have HH := Lib.hid h
    have HZ := Lib.hid hz
    clear h hz
    obtain ⟨L, hL⟩ : ∃ L, L = l.map (·.data.toList) := ⟨_, rfl⟩
    have hLn : L.length = n := by rw [hL, List.length_map]; exact HH.out.len
    have HL := Lib.hid hL
    have HLn := Lib.hid hLn
    clear hL hLn
    go_enter Try.func7, Try.ntmps7
    go_wp2_with fail
    refine (load_any A n c l w HH.out (by omega) HZ.out).mono ?_
    rw [← HL.out]
    by_cases hg : goodL L
    · have HG := Lib.hid hg
      rintro e w1 (⟨_, g, rfl, h1, b1⟩ | ⟨h, _⟩)
      case inr => exact absurd hg h
      clear hg
      change Is w1 _ _ (LP L) at h1
      go_wp2_with fail
      refine (rload_any A n c l w1 (HH.out.below b1) (by omega) HZ.out).mono ?_
      rw [← HL.out]
      rintro e w2 (⟨_, A2, c2, rfl, h2, b2⟩ | ⟨h, _⟩)
      case inr => exact absurd HG.out h
      have h1' := h1.below b2
      have b3 := below_step b1 b2
      have htx := Txs.of_ownc h2
      clear h1 b1 b2 h2
      go_wp2_with fail
      obtain ⟨W, hW⟩ : ∃ W, W = w2.alloc (.cells #[.slice A2 L.length c2, .bool false, .int .i64 0, .int .i64 0, .int .i64 0] 42) := ⟨_, rfl⟩
      have bW : Below w2.heap.size w2 W := by rw [hW]; exact (Below.refl _ _).alloc (Nat.le_refl _) _
      have hk : Blk W w2.heap.size 42 #[.slice A2 L.length c2, .bool false, .int .i64 0, .int .i64 0, .int .i64 0] := by rw [hW]; exact Blk.new w2 _ _
      rw [← hW]
      clear hW
      have h5 := h1'.below bW
      have b5 := below_step b3 bW
      have htx5 := htx.below bW
      clear h1' b3 htx bW
      have c0 := hk.cell 0
      have c1 := hk.cell 1
      have c2' := hk.cell 2
      have c3 := hk.cell 3
      have c4 := hk.cell 4
      simp at c0 c1 c2' c3 c4
      obtain ⟨rd, hrd⟩ : ∃ rd, readS (LP L) i = rd := ⟨_, rfl⟩
      obtain ⟨r1, r2⟩ := rd
      have HR := Lib.hid hrd
      have HO := Lib.hid (lp_ok HG.out)
      clear hrd
      refine (read_is r1 r2 _ _ _ i _ h5 HO.out HR.out).mono ?_
      rintro e w6 ⟨rfl, rfl⟩
      go_wp2_with fail
      refine (rread_any A2 c2 (LP L) i _ htx5 (by show L.length ≤ 500; rw [HLn.out]; omega)).mono ?_
      rw [HR.out]
      rintro e w7 ⟨rfl, b7⟩
      have h7 := h5.below b7
      have b8 := below_step b5 b7
      clear h5 b5 b7 htx5 hk c0 c1 c2' c3 c4
      go_wp2_with fail
      refine (on_is true _ _ _ _ h7 HO.out rfl).mono ?_
      rintro e w8 ⟨rfl, rfl⟩
      go_wp2_with fail
      refine (writes_is 0 _ _ _ _ h7 HO.out rfl).mono ?_
      rintro e w8 ⟨rfl, rfl⟩
      go_wp2_with fail
      refine (image_any _ _ _ _ h7 HO.out).mono ?_
      rintro e w9 ⟨A9, c9, rfl, h9, b9⟩
      have b10 := below_step b8 b9
      have ht9 := Txs.of_ownc (OwnC.of_own h9)
      have hs9 := Txs.of_strs (HH.out.below b10)
      rw [← HL.out] at hs9
      clear h7 b8 b9 h9
      go_wp2_with fail
      refine (same_yes _ _ _ _ _ _ _ _ _ ht9 hs9 (by show L.length ≤ maxLen; rw [HLn.out]; unfold maxLen; omega) (by unfold maxLen; omega) rfl).mono ?_
      rintro e w11 ⟨rfl, d, rfl⟩
      go_wp2_with fail
      refine (HA.out _).mono ?_
      rintro e w12 ⟨rfl, hb12⟩
      go_wp2_with fail
      go_ret
      exact ⟨rfl, below_step (below_drewN b10 d) hb12⟩
    · have HG := Lib.hid hg
      rintro e w1 (⟨h, _⟩ | ⟨_, rfl, b1⟩)
      case inl => exact absurd h hg
      clear hg
      go_wp2_with fail
      refine (rload_any A n c l w1 (HH.out.below b1) (by omega) HZ.out).mono ?_
      rw [← HL.out]
      rintro e w2 (⟨h, _⟩ | ⟨_, rfl, b2⟩)
      case inl => exact absurd h HG.out
      have b3 := below_step b1 b2
      clear b1 b2
      go_wp2_with fail
      refine (HA.out _).mono ?_
      rintro e w4 ⟨rfl, hb4⟩
      go_wp2_with fail
      go_ret
      exact ⟨rfl, below_step b3 (below_step ((Below.refl _ _).alloc (Nat.le_refl _) _) hb4)⟩
end Go.Proofs.Ytdhnegcblnpmfaa.StorW
