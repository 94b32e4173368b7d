/-
  Contracts of muster/store, for a store that a call made.
-/
import Derived.Test.YtdhnegcblnpmfaaRows
import Derived.Test.YtdhnegcblnpmfaaStorePlain
import Derived.Test.YtdhnegcblnpmfaaOwnC
import Derived.WalkKit
import Derived.WalkSpells
import Derived.WalkLawsBesides
import Derived.RegionTactic
import Derived.Deep.QuietTactic
import Derived.BigQuiet
import Derived.LoopTactic
import Derived.Outline
import Derived.Lib.BufferWrite
import Derived.Laws.CopyOwn
import Derived.Lib.Strings
import Derived.Deep.DrawnRows
import Derived.Deep.RegionLaw
namespace Go.Proofs.Ytdhnegcblnpmfaa.StorW
open Go.RowKit Mem Stor
set_option linter.unusedVariables false

/-- a block's header -/
def hv (h : Nat) : Value := .slice (some ⟨h, 0, none⟩) 256 256
def flds (A : Option Addr) (n c : Nat) (s : Sto) : Array Value := #[.slice A n c, .bool s.off, .int .i64 s.wr, .int .i64 s.left, .int .i64 s.keep]

structure St (w : World) (base g : Nat) (s : Sto) (hs : List Nat) (A : Option Addr) (c : Nat) : Prop where
  gb : base ≤ g
  blk : Blk w g 50 (flds A s.bs.length c s)
  own : w.ownsRow base 79 1 (.slice A s.bs.length c) s.bs.length (hs.map hv)
  len : hs.length = s.bs.length
  nodup : hs.Nodup
  data : ∀ (i h : Nat) (b : List UInt8), hs[i]? = some h → s.bs[i]? = some b → base ≤ h ∧ Blk w h 5 (bv b).toArray

/-- a store stands at g -/
def Is (w : World) (base g : Nat) (s : Sto) : Prop := ∃ hs A c, St w base g s hs A c

theorem own_below {w w' : World} {base : Nat} {e : TypeId} {size : Nat} {v : Value} {n : Nat} {xs : List Value} (h : w.ownsRow base e size v n xs) (hb : Below w.heap.size w w') : w'.ownsRow base e size v n xs := by
  refine ⟨h.1, ?_⟩
  rcases h.2 with h2 | ⟨g, cap, cur, hv, hg, hh, r⟩
  · exact .inl h2
  · exact .inr ⟨g, cap, cur, hv, hg, (hb.block g (lt_of_block hh)).trans hh, r⟩
theorem St.below {w w' : World} {base g : Nat} {s : Sto} {hs : List Nat} {A : Option Addr} {c : Nat} (h : St w base g s hs A c) (hb : Below w.heap.size w w') : St w' base g s hs A c :=
  ⟨h.gb, h.blk.below hb h.blk.lt, own_below h.own hb, h.len, h.nodup, fun i x b h1 h2 => ⟨(h.data i x b h1 h2).1, (h.data i x b h1 h2).2.below hb (h.data i x b h1 h2).2.lt⟩⟩
theorem Is.below {w w' : World} {base g : Nat} {s : Sto} (h : Is w base g s) (hb : Below w.heap.size w w') : Is w' base g s := by
  obtain ⟨hs, A, c, h⟩ := h
  exact ⟨hs, A, c, h.below hb⟩
theorem Is.drewN {w : World} {base g : Nat} {s : Sto} (h : Is w base g s) (n : Nat) : Is (w.drewN n) base g s := h.below (below_drewN (Below.refl _ _) n)
theorem blk_ne {w : World} {g g' : Nat} {t t' : TypeId} {cs cs' : Array Value} (h : Blk w g t cs) (h' : Blk w g' t' cs') (hne : t ≠ t') : g ≠ g' := by
  rintro rfl
  unfold Blk at h h'
  rw [h] at h'
  injection h' with h'
  injection h' with _ ht
  exact hne ht
theorem own_ne {w : World} {base : Nat} {e t : TypeId} {size n g : Nat} {v : Value} {xs : List Value} {cs : Array Value} (h : w.ownsRow base e size v n xs) (hg : Blk w g t cs) (hne : e ≠ t) : v.ownBlock ≠ some g := by
  rcases h.2 with ⟨rfl, _⟩ | ⟨g', cap, cur, rfl, _, hh, _⟩
  · simp [Value.ownBlock]
  · intro he
    have : g' = g := by simpa [Value.ownBlock] using he
    subst this
    exact blk_ne (t := e) hh hg hne rfl

/-- the fields are written anew -/
theorem St.fields {w : World} {base g : Nat} {s s' : Sto} {hs : List Nat} {A : Option Addr} {c : Nat} (h : St w base g s hs A c) {w' : World} (hbs : s'.bs = s.bs) (hg : Blk w' g 50 (flds A s'.bs.length c s')) (hk : ∀ k, k ≠ g → w'.heap[k]? = w.heap[k]?) : St w' base g s' hs A c := by
  refine ⟨h.gb, hg, ?_, by rw [hbs]; exact h.len, h.nodup, fun i x b h1 h2 => ?_⟩
  · rw [hbs]
    refine ⟨h.own.1, ?_⟩
    have hne := own_ne h.own h.blk (by decide)
    rcases h.own.2 with h2 | ⟨g', cap, cur, hv', hg', hh, r⟩
    · exact .inl h2
    · refine .inr ⟨g', cap, cur, hv', hg', (hk g' ?_).trans hh, r⟩
      rintro rfl
      exact hne (by rw [hv']; rfl)
  · rw [hbs] at h2
    obtain ⟨h3, h4⟩ := h.data i x b h1 h2
    exact ⟨h3, (hk x (blk_ne h4 h.blk (by decide))).trans h4⟩

theorem made_yes (g : Nat) (A : Option Addr) (n c : Nat) (s : Sto) (w : World) (h : Blk w g 50 (flds A n c s)) (hn : 1 ≤ n) :
    Calls Try.prog 42 #[.pointer (some ⟨g, 0, none⟩)] w fun e w' => e = .returned (.bool true) ∧ w = w' := by
  have c0 : w.cell? ⟨g, 0, none⟩ = some (.slice A n c) := h.cell 0
  go_enter Try.func42, Try.ntmps42
  go_wp2_with fail
  go_ret
  exact ⟨ret_bool (by simp; omega), rfl⟩
theorem powered_any (g : Nat) (A : Option Addr) (n c : Nat) (s : Sto) (w : World) (h : Blk w g 50 (flds A n c s)) :
    Calls Try.prog 43 #[.pointer (some ⟨g, 0, none⟩)] w fun e w' => e = .returned (.bool (!s.off)) ∧ w = w' := by
  have c1 : w.cell? ⟨g, 1, none⟩ = some (.bool s.off) := h.cell 1
  go_enter Try.func43, Try.ntmps43
  go_wp2_with fail
  go_ret
  exact ⟨rfl, rfl⟩

set_option maxHeartbeats 400000 in
theorem reached_any (g : Nat) (A : Option Addr) (c : Nat) (s : Sto) (i : Int) (w : World) (h : Blk w g 50 (flds A s.bs.length c s)) (hn : 1 ≤ s.bs.length) (h4 : s.bs.length ≤ 400) :
    Calls Try.prog 41 #[.pointer (some ⟨g, 0, none⟩), .int .i64 i] w fun e w' => e = .returned (.int .i64 (reach s i)) ∧ w = w' := by
  have c0 : w.cell? ⟨g, 0, none⟩ = some (.slice A s.bs.length c) := h.cell 0
  have HM := Lib.hid (made_yes g A _ c s w h hn)
  have HP := Lib.hid (powered_any g A _ c s w h)
  obtain ⟨off, hoff⟩ : ∃ off, s.off = off := ⟨_, rfl⟩
  rw [hoff] at HP
  cases off
  · by_cases h0 : i < 0
    · have HR : Hid (reach s i = 331) := by show _ = _; simp [reach, hoff, h0]
      clear hoff h
      go_enter Try.func41, Try.ntmps41
      go_wp2_with fail
      refine HM.out.mono ?_
      rintro e w1 ⟨rfl, rfl⟩
      go_wp2_with fail
      refine HP.out.mono ?_
      rintro e w1 ⟨rfl, rfl⟩
      go_wp2_with fail
      go_ret
      exact ⟨ret_int HR.out.symm, rfl⟩
    · by_cases h1 : (s.bs.length : Int) ≤ i
      · have HR : Hid (reach s i = 331) := by show _ = _; simp [reach, hoff, h1]
        clear hoff h
        go_enter Try.func41, Try.ntmps41
        go_wp2_with fail
        refine HM.out.mono ?_
        rintro e w1 ⟨rfl, rfl⟩
        go_wp2_with fail
        refine HP.out.mono ?_
        rintro e w1 ⟨rfl, rfl⟩
        go_wp2_with fail
        go_ret
        exact ⟨ret_int HR.out.symm, rfl⟩
      · have HR : Hid (reach s i = 0) := by
          show _ = _
          rw [reach, hoff, if_neg (by simp), if_neg (by omega)]
        clear hoff h
        go_enter Try.func41, Try.ntmps41
        go_wp2_with fail
        refine HM.out.mono ?_
        rintro e w1 ⟨rfl, rfl⟩
        go_wp2_with fail
        refine HP.out.mono ?_
        rintro e w1 ⟨rfl, rfl⟩
        go_wp2_with fail
        go_ret
        exact ⟨ret_int HR.out.symm, rfl⟩
  · have HR : Hid (reach s i = 330) := by show _ = _; simp [reach, hoff]
    clear hoff h
    go_enter Try.func41, Try.ntmps41
    go_wp2_with fail
    refine HM.out.mono ?_
    rintro e w1 ⟨rfl, rfl⟩
    go_wp2_with fail
    refine HP.out.mono ?_
    rintro e w1 ⟨rfl, rfl⟩
    go_wp2_with fail
    go_ret
    exact ⟨ret_int HR.out.symm, rfl⟩

/-- 'copy(block, s)' -/
theorem copy_blk {P : Program} {w : World} {g : Nat} {T : TypeId} {b : List UInt8} (h : Blk w g T (bv b).toArray) (hb : b.length = 256) (s : ByteArray) (hs : s.size ≤ 256) (dT sT elem : TypeId)
    (hu : P.underlying dT = some (.slice elem)) (hz : (P.info? elem).map (·.size) = some 1) :
    ∃ W', (∀ ty, (Builtin.copy_ #[dT, sT] ty #[hv g, .string s]).run P w = .ok (goInt s.size) W') ∧ Blk W' g T (bv (s.data.toList ++ b.drop s.size)).toArray ∧ (∀ k, k ≠ g → W'.heap[k]? = w.heap[k]?) ∧ W'.heap.size = w.heap.size ∧ ∀ B, B ≤ g → Below B w W' := by
  have hsz : ((bv b).toArray).size = 256 := by simp [bv_length, hb]
  refine ⟨w.setRow g (((bv b).toArray).toList.take 0 ++ Lib.byteCells s.data.toList ++ ((bv b).toArray).toList.drop (0 + s.size)).toArray, fun ty => Lib.run_copy_row_string w dT sT ty elem g 0 256 256 s _ T hu hz h hs (by rw [hsz]; omega), ?_, fun k hk => setRow_other w g k _ hk, by simp [World.setRow], fun B hB => below_setRow (Below.refl _ _) hB _⟩
  have e : (((bv b).toArray).toList.take 0 ++ Lib.byteCells s.data.toList ++ ((bv b).toArray).toList.drop (0 + s.size)) = bv (s.data.toList ++ b.drop s.size) := by
    simp [bv, Lib.byteCells, List.map_drop]
  rw [e]
  exact setRow_heap w g _ _ T _ h
end Go.Proofs.Ytdhnegcblnpmfaa.StorW
