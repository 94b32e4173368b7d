/-
  Merged: Contracts: journal.fits, stamped.; The store as plain data (no program in sight): what each call answers, and what the store is behind it.; Contracts of muster/store, for a store that a call made.; Contracts of muster/store: Write, Arm, Boot, Off, On, Writes, Size, Read.; Contracts of muster/store: New, Image; and whole, text of the law's package.; Contracts of muster/store: New (refused), Image; and whole of the law's package.; Slices of texts in one word; strings held against each other.; Contract: journal.usable, at a store whose power is on.
-/
import Derived.Test.YtdhnegcblnpmfaaL4
import Derived.Test.YtdhnegcblnpmfaaL3
import Derived.Test.YtdhnegcblnpmfaaRows
import Derived.WalkKit
import Derived.WalkSpells
import Derived.WalkLawsBesides
import Derived.RegionTactic
import Derived.Deep.QuietTactic
import Derived.BigQuiet
import Derived.LoopTactic
import Derived.Outline
import Derived.Lib.BufferWrite
import Derived.Laws.CopyOwn
import Derived.Lib.Strings
import Derived.Deep.DrawnRows
import Derived.Deep.RegionLaw
namespace Go.Proofs.Ytdhnegcblnpmfaa.JrnW
open Go.RowKit Mem Jrn PackW FrameW
set_option linter.unusedVariables false
set_option linter.unusedSimpArgs false

def fitsE (n b : Int) : Int := if 255 < n then 3 else if b < n then 341 else 0
theorem fits_any (s : ByteArray) (b : Int) (w : World) (hs : s.size ≤ 1000000000) : Calls Try.prog 49 #[.string s, .int .i64 b] w fun e w' => e = .returned (.int .i64 (fitsE (need s.data.toList) b)) ∧ w = w' := by
  have HN := Lib.hid (need_any s w hs)
  obtain ⟨n, hn⟩ : ∃ n, n = need s.data.toList := ⟨_, rfl⟩
  rw [← hn] at HN ⊢
  clear hn
  by_cases h1 : 255 < n
  · have HE : Hid (fitsE n b = 3) := by show _ = _; rw [fitsE, if_pos h1]
    go_enter Try.func49, Try.ntmps49
    go_wp2_with fail
    refine HN.out.mono ?_
    rintro e w1 ⟨rfl, rfl⟩
    go_wp2_with fail
    go_ret
    exact ⟨ret_int HE.out.symm, rfl⟩
  have h1' : n ≤ 255 := by omega
  by_cases h2 : b < n
  · have HE : Hid (fitsE n b = 341) := by show _ = _; rw [fitsE, if_neg h1, if_pos h2]
    go_enter Try.func49, Try.ntmps49
    go_wp2_with fail
    refine HN.out.mono ?_
    rintro e w1 ⟨rfl, rfl⟩
    go_wp2_with fail
    go_ret
    exact ⟨ret_int HE.out.symm, rfl⟩
  have h2' : n ≤ b := by omega
  have HE : Hid (fitsE n b = 0) := by show _ = _; rw [fitsE, if_neg h1, if_neg h2]
  go_enter Try.func49, Try.ntmps49
  go_wp2_with fail
  refine HN.out.mono ?_
  rintro e w1 ⟨rfl, rfl⟩
  go_wp2_with fail
  go_ret
  exact ⟨ret_int HE.out.symm, rfl⟩
theorem num4_bd (s : List UInt8) (a : Int) : 0 ≤ numAt s a 4 ∧ numAt s a 4 < 4294967296 := by
  unfold numAt Pack.takeNum
  split
  · simp
  · split
    · simp
    · split
      · simp
      · have h := Pack.num_lt ((s.drop a.toNat).take (4 : Int).toNat)
        have h2 : ((s.drop a.toNat).take (4 : Int).toNat).length ≤ 4 := List.length_take_le _ _
        have h3 : 256 ^ ((s.drop a.toNat).take (4 : Int).toNat).length ≤ 256 ^ 4 := Nat.pow_le_pow_right (by omega) h2
        simp only
        omega
def stampF (l : List (List UInt8)) : Int := l.foldl (fun n s => max n (max (numAt s 0 4) (numAt s ((s.length : Int) - 4) 4))) 0
theorem stampF_snoc (l : List (List UInt8)) (s : List UInt8) : stampF (l ++ [s]) = max (stampF l) (max (numAt s 0 4) (numAt s ((s.length : Int) - 4) 4)) := by
  unfold stampF
  rw [List.foldl_append]
  rfl
theorem stampF_bd : ∀ l : List (List UInt8), 0 ≤ stampF l ∧ stampF l < 4294967296 := by
  intro l
  have key : ∀ (l : List (List UInt8)) (n : Int), 0 ≤ n ∧ n < 4294967296 → 0 ≤ l.foldl (fun n s => max n (max (numAt s 0 4) (numAt s ((s.length : Int) - 4) 4))) n ∧ l.foldl (fun n s => max n (max (numAt s 0 4) (numAt s ((s.length : Int) - 4) 4))) n < 4294967296 := by
    intro l
    induction l with
    | nil => intro n h; exact h
    | cons s r ih =>
      intro n h
      have h1 := num4_bd s 0
      have h2 := num4_bd s ((s.length : Int) - 4)
      refine ih _ ?_
      show 0 ≤ max n (max (numAt s 0 4) (numAt s ((s.length : Int) - 4) 4)) ∧ max n (max (numAt s 0 4) (numAt s ((s.length : Int) - 4) 4)) < 4294967296
      omega
  exact key l 0 (by omega)
theorem max3 (m p q : Int) : (if (if m < p then p else m) < q then q else if m < p then p else m) = max m (max p q) := by
  repeat' split
  all_goals omega
theorem stamped_eq (l : List (List UInt8)) : stamped l = stampF l + 1 := rfl
def StRel (l : List (List UInt8)) (X Y : Value) : Prop := ∃ k : Nat, k ≤ l.length ∧ X = .int .i64 (stampF (l.take k)) ∧ Y = .int .i64 k
set_option maxHeartbeats 1000000 in
set_option maxRecDepth 100000 in
theorem stamped_any (A : Option Addr) (n c : Nat) (l : List (List UInt8)) (w : World) (h : Txs w A n l) (hn : n ≤ 1000) (hs : ∀ s ∈ l, s.length ≤ 1000) :
    Calls Try.prog 59 #[.slice A n c] w fun e w' => e = .returned (.int .i64 (stamped l)) ∧ w = w' := by
  have hl := h.len
  subst hl
  have HS := Lib.hid hs
  have HH := Lib.hid h
  clear h hs
  go_enter Try.func59, Try.ntmps59
  go_wp2_with fail
  go_loop [3, 8] (fun X Y => StRel l X Y) (fun _ Y => l.length - (intOf Y).toNat)
  case atStart => exact ⟨0, by omega, rfl, rfl⟩
  case round =>
    obtain ⟨k, hk, rfl, rfl⟩ := hrel
    have hb := stampF_bd (l.take k)
    by_cases hlt : k < l.length
    · obtain ⟨b, off, s, rfl, hbl, hx, d0⟩ := HH.out.at_ hlt
      have hsz := HS.out s (mem_of_at hx)
      have HT : Hid (stampF (l.take (k + 1)) = max (stampF (l.take k)) (max (numAt s 0 4) (numAt s ((s.length : Int) - 4) 4))) := by show _ = _; rw [take_snoc_some hx, stampF_snoc]
      have hz : (str s).size = s.length := str_size s
      have HZ := Lib.hid hz
      have hz2 : (str s).size ≤ 1000 := by omega
      have J0 := Lib.hid (jnum_any (str s) 0 4 w (by rw [hz]; unfold maxLen; omega))
      have J1 := Lib.hid (jnum_any (str s) (((str s).size : Int) - 4) 4 w (by rw [hz]; unfold maxLen; omega))
      rw [str_data] at J0 J1
      have hb0 := num4_bd s 0
      have hb1 := num4_bd s (((str s).size : Int) - 4)
      rw [← hz] at HT
      obtain ⟨p, hp⟩ : ∃ p, p = numAt s 0 4 := ⟨_, rfl⟩
      obtain ⟨q, hq⟩ : ∃ q, q = numAt s (((str s).size : Int) - 4) 4 := ⟨_, rfl⟩
      obtain ⟨m, hm⟩ : ∃ m, m = stampF (l.take k) := ⟨_, rfl⟩
      rw [← hp] at J0 HT hb0
      rw [← hq] at J1 HT hb1
      rw [← hm] at HT hb ⊢
      clear hp hq hm hx hz
      go_wp2_with fail
      refine J0.out.mono ?_
      rintro e w1 ⟨rfl, hw⟩
      subst hw
      go_wp2_with fail
      refine J1.out.mono ?_
      rintro e w1 ⟨rfl, hw⟩
      subst hw
      go_wp2_with fail
      exact ⟨⟨k + 1, by omega, by rw [HT.out, max3], by go_num⟩, by simp [intOf]; omega⟩
    · obtain rfl : k = l.length := by omega
      rw [List.take_length] at hb ⊢
      have HE := Lib.hid (stamped_eq l)
      go_wp2_with fail
      go_ret
      exact ⟨ret_int HE.out.symm, rfl⟩
end Go.Proofs.Ytdhnegcblnpmfaa.JrnW

namespace Go.Proofs.Ytdhnegcblnpmfaa.Stor

structure Sto where
  bs : List (List UInt8)
  off : Bool
  wr : Int
  left : Int
  keep : Int

/-- a store that a call made: it has a block, each block is 256 bytes long, what is armed may be -/
structure Sto.Ok (s : Sto) : Prop where
  some_ : 1 ≤ s.bs.length
  few : s.bs.length ≤ 400
  whole : ∀ b ∈ s.bs, b.length = 256
  l0 : 0 ≤ s.left
  l1 : s.left ≤ 9223372036854775807
  k0 : 0 ≤ s.keep
  k1 : s.keep ≤ 256
  w0 : 0 ≤ s.wr

def zeros : List UInt8 := List.replicate 256 0
theorem zeros_length : zeros.length = 256 := List.length_replicate
def new (n : Nat) : Sto := ⟨List.replicate n zeros, false, 0, 0, 0⟩
theorem new_ok (n : Nat) (h : 1 ≤ n) (h4 : n ≤ 400) : (new n).Ok :=
  ⟨by simpa [new] using h, by simpa [new] using h4, by intro b hb; rw [new] at hb; rw [List.eq_of_mem_replicate hb]; exact zeros_length, by simp [new], by simp [new], by simp [new], by simp [new], by simp [new]⟩

/-- why a block may not be reached -/
def reach (s : Sto) (i : Int) : Int := if s.off then 330 else if i < 0 ∨ (s.bs.length : Int) ≤ i then 331 else 0
def write (s : Sto) (i : Int) (b : List UInt8) : Sto × Int :=
  if reach s i ≠ 0 then (s, reach s i)
  else if b.length ≠ 256 then (s, 2)
  else if s.left = 1 then (⟨s.bs.set i.toNat (b.take s.keep.toNat ++ (s.bs.getD i.toNat []).drop s.keep.toNat), true, s.wr + 1, 0, s.keep⟩, 330)
  else (⟨s.bs.set i.toNat b, s.off, s.wr + 1, max (s.left - 1) 0, s.keep⟩, 0)
def arm (s : Sto) (after keep : Int) : Sto × Int :=
  if s.off then (s, 330) else if after < 1 ∨ keep < 0 ∨ 256 < keep then (s, 2) else (⟨s.bs, s.off, s.wr, after, keep⟩, 0)
def power (s : Sto) (on : Bool) : Sto := ⟨s.bs, !on, s.wr, 0, s.keep⟩
def readS (s : Sto) (i : Int) : List UInt8 × Int := if reach s i ≠ 0 then ([], reach s i) else (s.bs.getD i.toNat [], 0)

theorem write_len (s : Sto) (i : Int) (b : List UInt8) : (write s i b).1.bs.length = s.bs.length := by
  unfold write
  repeat' split
  all_goals simp
theorem write_ok {s : Sto} (h : s.Ok) (i : Int) (b : List UInt8) : (write s i b).1.Ok := by
  unfold write
  split
  · exact h
  · split
    · exact h
    · rename_i hr hb
      have hi : 0 ≤ i ∧ i.toNat < s.bs.length := by
        unfold reach at hr
        repeat' split at hr
        all_goals omega
      have hold : (s.bs.getD i.toNat []).length = 256 := by
        rw [List.getD_eq_getElem?_getD, List.getElem?_eq_getElem hi.2]
        exact h.whole _ (List.getElem_mem _)
      split
      · refine ⟨by simpa using h.some_, by simpa using h.few, fun x hx => ?_, by simp, by simp, h.k0, h.k1, by have := h.w0; simp; omega⟩
        rcases List.mem_or_eq_of_mem_set hx with hx | rfl
        · exact h.whole x hx
        · have h0 := h.k0
          have h1 := h.k1
          rw [List.length_append, List.length_take, List.length_drop, hold]
          omega
      · refine ⟨by simpa using h.some_, by simpa using h.few, fun x hx => ?_, by simp; omega, by have := h.l1; simp; omega, h.k0, h.k1, by have := h.w0; simp; omega⟩
        rcases List.mem_or_eq_of_mem_set hx with hx | rfl
        · exact h.whole x hx
        · omega
theorem arm_ok {s : Sto} (h : s.Ok) (a k : Int) (ha : a ≤ 9223372036854775807) : (arm s a k).1.Ok := by
  unfold arm
  split
  · exact h
  · split
    · exact h
    · exact ⟨h.some_, h.few, h.whole, by simp; omega, ha, by simp; omega, by simp; omega, h.w0⟩
theorem power_ok {s : Sto} (h : s.Ok) (on : Bool) : (power s on).Ok := ⟨h.some_, h.few, h.whole, by simp [power], by simp [power], h.k0, h.k1, h.w0⟩
theorem write_wr (s : Sto) (i : Int) (b : List UInt8) : s.wr ≤ (write s i b).1.wr ∧ (write s i b).1.wr ≤ s.wr + 1 := by
  unfold write
  repeat' split
  all_goals simp
  all_goals omega
end Go.Proofs.Ytdhnegcblnpmfaa.Stor

namespace Go.Proofs.Ytdhnegcblnpmfaa.StorW
open Go.RowKit Mem Stor
set_option linter.unusedVariables false

/-- a block's header -/
def hv (h : Nat) : Value := .slice (some ⟨h, 0, none⟩) 256 256
def flds (A : Option Addr) (n c : Nat) (s : Sto) : Array Value := #[.slice A n c, .bool s.off, .int .i64 s.wr, .int .i64 s.left, .int .i64 s.keep]

structure St (w : World) (base g : Nat) (s : Sto) (hs : List Nat) (A : Option Addr) (c : Nat) : Prop where
  gb : base ≤ g
  blk : Blk w g 50 (flds A s.bs.length c s)
  own : w.ownsRow base 79 1 (.slice A s.bs.length c) s.bs.length (hs.map hv)
  len : hs.length = s.bs.length
  nodup : hs.Nodup
  data : ∀ (i h : Nat) (b : List UInt8), hs[i]? = some h → s.bs[i]? = some b → base ≤ h ∧ Blk w h 5 (bv b).toArray

/-- a store stands at g -/
def Is (w : World) (base g : Nat) (s : Sto) : Prop := ∃ hs A c, St w base g s hs A c

theorem own_below {w w' : World} {base : Nat} {e : TypeId} {size : Nat} {v : Value} {n : Nat} {xs : List Value} (h : w.ownsRow base e size v n xs) (hb : Below w.heap.size w w') : w'.ownsRow base e size v n xs := by
  refine ⟨h.1, ?_⟩
  rcases h.2 with h2 | ⟨g, cap, cur, hv, hg, hh, r⟩
  · exact .inl h2
  · exact .inr ⟨g, cap, cur, hv, hg, (hb.block g (lt_of_block hh)).trans hh, r⟩
theorem St.below {w w' : World} {base g : Nat} {s : Sto} {hs : List Nat} {A : Option Addr} {c : Nat} (h : St w base g s hs A c) (hb : Below w.heap.size w w') : St w' base g s hs A c :=
  ⟨h.gb, h.blk.below hb h.blk.lt, own_below h.own hb, h.len, h.nodup, fun i x b h1 h2 => ⟨(h.data i x b h1 h2).1, (h.data i x b h1 h2).2.below hb (h.data i x b h1 h2).2.lt⟩⟩
theorem Is.below {w w' : World} {base g : Nat} {s : Sto} (h : Is w base g s) (hb : Below w.heap.size w w') : Is w' base g s := by
  obtain ⟨hs, A, c, h⟩ := h
  exact ⟨hs, A, c, h.below hb⟩
theorem Is.drewN {w : World} {base g : Nat} {s : Sto} (h : Is w base g s) (n : Nat) : Is (w.drewN n) base g s := h.below (below_drewN (Below.refl _ _) n)
theorem blk_ne {w : World} {g g' : Nat} {t t' : TypeId} {cs cs' : Array Value} (h : Blk w g t cs) (h' : Blk w g' t' cs') (hne : t ≠ t') : g ≠ g' := by
  rintro rfl
  unfold Blk at h h'
  rw [h] at h'
  injection h' with h'
  injection h' with _ ht
  exact hne ht
theorem own_ne {w : World} {base : Nat} {e t : TypeId} {size n g : Nat} {v : Value} {xs : List Value} {cs : Array Value} (h : w.ownsRow base e size v n xs) (hg : Blk w g t cs) (hne : e ≠ t) : v.ownBlock ≠ some g := by
  rcases h.2 with ⟨rfl, _⟩ | ⟨g', cap, cur, rfl, _, hh, _⟩
  · simp [Value.ownBlock]
  · intro he
    have : g' = g := by simpa [Value.ownBlock] using he
    subst this
    exact blk_ne (t := e) hh hg hne rfl

/-- the fields are written anew -/
theorem St.fields {w : World} {base g : Nat} {s s' : Sto} {hs : List Nat} {A : Option Addr} {c : Nat} (h : St w base g s hs A c) {w' : World} (hbs : s'.bs = s.bs) (hg : Blk w' g 50 (flds A s'.bs.length c s')) (hk : ∀ k, k ≠ g → w'.heap[k]? = w.heap[k]?) : St w' base g s' hs A c := by
  refine ⟨h.gb, hg, ?_, by rw [hbs]; exact h.len, h.nodup, fun i x b h1 h2 => ?_⟩
  · rw [hbs]
    refine ⟨h.own.1, ?_⟩
    have hne := own_ne h.own h.blk (by decide)
    rcases h.own.2 with h2 | ⟨g', cap, cur, hv', hg', hh, r⟩
    · exact .inl h2
    · refine .inr ⟨g', cap, cur, hv', hg', (hk g' ?_).trans hh, r⟩
      rintro rfl
      exact hne (by rw [hv']; rfl)
  · rw [hbs] at h2
    obtain ⟨h3, h4⟩ := h.data i x b h1 h2
    exact ⟨h3, (hk x (blk_ne h4 h.blk (by decide))).trans h4⟩

theorem made_yes (g : Nat) (A : Option Addr) (n c : Nat) (s : Sto) (w : World) (h : Blk w g 50 (flds A n c s)) (hn : 1 ≤ n) :
    Calls Try.prog 42 #[.pointer (some ⟨g, 0, none⟩)] w fun e w' => e = .returned (.bool true) ∧ w = w' := by
  have c0 : w.cell? ⟨g, 0, none⟩ = some (.slice A n c) := h.cell 0
  go_enter Try.func42, Try.ntmps42
  go_wp2_with fail
  go_ret
  exact ⟨ret_bool (by simp; omega), rfl⟩
theorem powered_any (g : Nat) (A : Option Addr) (n c : Nat) (s : Sto) (w : World) (h : Blk w g 50 (flds A n c s)) :
    Calls Try.prog 43 #[.pointer (some ⟨g, 0, none⟩)] w fun e w' => e = .returned (.bool (!s.off)) ∧ w = w' := by
  have c1 : w.cell? ⟨g, 1, none⟩ = some (.bool s.off) := h.cell 1
  go_enter Try.func43, Try.ntmps43
  go_wp2_with fail
  go_ret
  exact ⟨rfl, rfl⟩

set_option maxHeartbeats 400000 in
theorem reached_any (g : Nat) (A : Option Addr) (c : Nat) (s : Sto) (i : Int) (w : World) (h : Blk w g 50 (flds A s.bs.length c s)) (hn : 1 ≤ s.bs.length) (h4 : s.bs.length ≤ 400) :
    Calls Try.prog 41 #[.pointer (some ⟨g, 0, none⟩), .int .i64 i] w fun e w' => e = .returned (.int .i64 (reach s i)) ∧ w = w' := by
  have c0 : w.cell? ⟨g, 0, none⟩ = some (.slice A s.bs.length c) := h.cell 0
  have HM := Lib.hid (made_yes g A _ c s w h hn)
  have HP := Lib.hid (powered_any g A _ c s w h)
  obtain ⟨off, hoff⟩ : ∃ off, s.off = off := ⟨_, rfl⟩
  rw [hoff] at HP
  cases off
  · by_cases h0 : i < 0
    · have HR : Hid (reach s i = 331) := by show _ = _; simp [reach, hoff, h0]
      clear hoff h
      go_enter Try.func41, Try.ntmps41
      go_wp2_with fail
      refine HM.out.mono ?_
      rintro e w1 ⟨rfl, rfl⟩
      go_wp2_with fail
      refine HP.out.mono ?_
      rintro e w1 ⟨rfl, rfl⟩
      go_wp2_with fail
      go_ret
      exact ⟨ret_int HR.out.symm, rfl⟩
    · by_cases h1 : (s.bs.length : Int) ≤ i
      · have HR : Hid (reach s i = 331) := by show _ = _; simp [reach, hoff, h1]
        clear hoff h
        go_enter Try.func41, Try.ntmps41
        go_wp2_with fail
        refine HM.out.mono ?_
        rintro e w1 ⟨rfl, rfl⟩
        go_wp2_with fail
        refine HP.out.mono ?_
        rintro e w1 ⟨rfl, rfl⟩
        go_wp2_with fail
        go_ret
        exact ⟨ret_int HR.out.symm, rfl⟩
      · have HR : Hid (reach s i = 0) := by
          show _ = _
          rw [reach, hoff, if_neg (by simp), if_neg (by omega)]
        clear hoff h
        go_enter Try.func41, Try.ntmps41
        go_wp2_with fail
        refine HM.out.mono ?_
        rintro e w1 ⟨rfl, rfl⟩
        go_wp2_with fail
        refine HP.out.mono ?_
        rintro e w1 ⟨rfl, rfl⟩
        go_wp2_with fail
        go_ret
        exact ⟨ret_int HR.out.symm, rfl⟩
  · have HR : Hid (reach s i = 330) := by show _ = _; simp [reach, hoff]
    clear hoff h
    go_enter Try.func41, Try.ntmps41
    go_wp2_with fail
    refine HM.out.mono ?_
    rintro e w1 ⟨rfl, rfl⟩
    go_wp2_with fail
    refine HP.out.mono ?_
    rintro e w1 ⟨rfl, rfl⟩
    go_wp2_with fail
    go_ret
    exact ⟨ret_int HR.out.symm, rfl⟩

/-- 'copy(block, s)' -/
theorem copy_blk {P : Program} {w : World} {g : Nat} {T : TypeId} {b : List UInt8} (h : Blk w g T (bv b).toArray) (hb : b.length = 256) (s : ByteArray) (hs : s.size ≤ 256) (dT sT elem : TypeId)
    (hu : P.underlying dT = some (.slice elem)) (hz : (P.info? elem).map (·.size) = some 1) :
    ∃ W', (∀ ty, (Builtin.copy_ #[dT, sT] ty #[hv g, .string s]).run P w = .ok (goInt s.size) W') ∧ Blk W' g T (bv (s.data.toList ++ b.drop s.size)).toArray ∧ (∀ k, k ≠ g → W'.heap[k]? = w.heap[k]?) ∧ W'.heap.size = w.heap.size ∧ ∀ B, B ≤ g → Below B w W' := by
  have hsz : ((bv b).toArray).size = 256 := by simp [bv_length, hb]
  refine ⟨w.setRow g (((bv b).toArray).toList.take 0 ++ Lib.byteCells s.data.toList ++ ((bv b).toArray).toList.drop (0 + s.size)).toArray, fun ty => Lib.run_copy_row_string w dT sT ty elem g 0 256 256 s _ T hu hz h hs (by rw [hsz]; omega), ?_, fun k hk => setRow_other w g k _ hk, by simp [World.setRow], fun B hB => below_setRow (Below.refl _ _) hB _⟩
  have e : (((bv b).toArray).toList.take 0 ++ Lib.byteCells s.data.toList ++ ((bv b).toArray).toList.drop (0 + s.size)) = bv (s.data.toList ++ b.drop s.size) := by
    simp [bv, Lib.byteCells, List.map_drop]
  rw [e]
  exact setRow_heap w g _ _ T _ h
end Go.Proofs.Ytdhnegcblnpmfaa.StorW

namespace Go.Proofs.Ytdhnegcblnpmfaa.StorW
open Go.RowKit Mem Stor
set_option linter.unusedVariables false

/-- blocks that are none of a store's are as they were -/
def KeepS (w w' : World) : Prop := ∀ (k : Nat) (cs : Array Value) (t : TypeId) (fr : Nat × Nat), t ≠ 50 → t ≠ 5 → w.heap[k]? = some (.cells cs t fr) → w'.heap[k]? = some (.cells cs t fr)
theorem KeepS.refl (w : World) : KeepS w w := fun _ _ _ _ _ _ h => h
theorem keepS_of {w w' : World} {g x : Nat} {cs cx : Array Value} (hg : Blk w g 50 cs) (hx : Blk w x 5 cx) (h : ∀ k, k ≠ g → k ≠ x → w'.heap[k]? = w.heap[k]?) : KeepS w w' := by
  intro k c t fr ht ht' hk
  rw [h k ?_ ?_]
  · exact hk
  · rintro rfl; unfold Blk at hg; rw [hg] at hk; injection hk with hk; injection hk with _ h1; exact ht h1.symm
  · rintro rfl; unfold Blk at hx; rw [hx] at hk; injection hk with hk; injection hk with _ h1; exact ht' h1.symm
theorem keepS_of1 {w w' : World} {g : Nat} {cs : Array Value} (hg : Blk w g 50 cs) (h : ∀ k, k ≠ g → w'.heap[k]? = w.heap[k]?) : KeepS w w' := by
  intro k c t fr ht ht' hk
  rw [h k ?_]
  · exact hk
  · rintro rfl; unfold Blk at hg; rw [hg] at hk; injection hk with hk; injection hk with _ h1; exact ht h1.symm
theorem KeepS.blk {w w' : World} {g : Nat} {t : TypeId} {cs : Array Value} (h : KeepS w w') (hb : Blk w g t cs) (h1 : t ≠ 50) (h2 : t ≠ 5) : Blk w' g t cs := h g cs t (0, 0) h1 h2 hb

def IsPost (base g : Nat) (s : Sto) (e : Int) (w : World) (x : Ending) (w' : World) : Prop := x = .returned (.int .i64 e) ∧ Is w' base g s ∧ Below base w w' ∧ KeepS w w'

theorem byteSize : (Try.prog.info? 5).map (·.size) = some 1 := by kernel_rfl

theorem St.row {w : World} {base g : Nat} {s : Sto} {hs : List Nat} {A : Option Addr} {c : Nat} (h : St w base g s hs A c) {i : Nat} (hi : i < s.bs.length) :
    ∃ q x b, A = some ⟨q, 0, none⟩ ∧ w.cell? ⟨q, i, none⟩ = some (hv x) ∧ hs[i]? = some x ∧ s.bs[i]? = some b ∧ base ≤ x ∧ Blk w x 5 (bv b).toArray := by
  obtain ⟨x, hx⟩ : ∃ x, hs[i]? = some x := ⟨_, List.getElem?_eq_getElem (by rw [h.len]; exact hi)⟩
  obtain ⟨b, hb⟩ : ∃ b, s.bs[i]? = some b := ⟨_, List.getElem?_eq_getElem hi⟩
  obtain ⟨h1, h2⟩ := h.data i x b hx hb
  rcases h.own.2 with ⟨_, h0⟩ | ⟨q, cap, cur, hv', _⟩
  · omega
  · injection hv' with hA _ _
    subst hA
    refine ⟨q, x, b, rfl, ?_, hx, hb, h1, h2⟩
    rw [h.own.cellAt i (by omega), List.getElem?_map, hx]
    rfl

/-- one block and the fields are written anew -/
theorem St.block {w w' : World} {base g : Nat} {s s' : Sto} {hs : List Nat} {A : Option Addr} {c : Nat} (h : St w base g s hs A c) {i x : Nat} (hx : hs[i]? = some x) (nb : List UInt8) (hbs : s'.bs = s.bs.set i nb)
    (hg : Blk w' g 50 (flds A s'.bs.length c s')) (hb : Blk w' x 5 (bv nb).toArray) (hk : ∀ k, k ≠ g → k ≠ x → w'.heap[k]? = w.heap[k]?) : St w' base g s' hs A c := by
  have hil : i < s.bs.length := by rw [← h.len]; exact (List.getElem?_eq_some_iff.1 hx).1
  obtain ⟨q, x', b, _, _, hx', hb', hxb, hblk⟩ := h.row hil
  rw [hx] at hx'
  injection hx' with hx'
  subst hx'
  have hl : s'.bs.length = s.bs.length := by rw [hbs]; simp
  refine ⟨h.gb, hg, ?_, by rw [hl]; exact h.len, h.nodup, fun j y b2 h1 h2 => ?_⟩
  · rw [hl]
    refine ⟨h.own.1, ?_⟩
    have hne := own_ne h.own h.blk (by decide)
    have hne2 := own_ne h.own hblk (by decide)
    rcases h.own.2 with h2 | ⟨g', cap, cur, hv', hg', hh, r⟩
    · exact .inl h2
    · refine .inr ⟨g', cap, cur, hv', hg', (hk g' ?_ ?_).trans hh, r⟩
      · rintro rfl; exact hne (by rw [hv']; rfl)
      · rintro rfl; exact hne2 (by rw [hv']; rfl)
  · rw [hbs] at h2
    by_cases hij : i = j
    · subst hij
      rw [hx] at h1
      injection h1 with h1
      subst h1
      rw [List.getElem?_set_self hil] at h2
      injection h2 with h2
      subst h2
      exact ⟨hxb, hb⟩
    · rw [List.getElem?_set_ne hij] at h2
      obtain ⟨h3, h4⟩ := h.data j y b2 h1 h2
      refine ⟨h3, (hk y (blk_ne h4 h.blk (by decide)) ?_).trans h4⟩
      rintro rfl
      exact hij ((List.getElem?_inj (by rw [h.len]; exact hil) h.nodup).1 (by rw [hx, h1]))

theorem blk_cells {w : World} {g : Nat} {A : Option Addr} {n c : Nat} {s : Sto} (h : Blk w g 50 (flds A n c s)) :
    w.cell? ⟨g, 0, none⟩ = some (.slice A n c) ∧ w.cell? ⟨g, 1, none⟩ = some (.bool s.off) ∧ w.cell? ⟨g, 2, none⟩ = some (.int .i64 s.wr) ∧ w.cell? ⟨g, 3, none⟩ = some (.int .i64 s.left) ∧ w.cell? ⟨g, 4, none⟩ = some (.int .i64 s.keep) :=
  ⟨h.cell 0, h.cell 1, h.cell 2, h.cell 3, h.cell 4⟩

theorem reach_zero {s : Sto} {i : Int} (h : reach s i = 0) : s.off = false ∧ 0 ≤ i ∧ i < s.bs.length := by
  unfold reach at h
  split at h
  · omega
  · rename_i ho
    split at h
    · omega
    · exact ⟨by simpa using ho, by omega, by omega⟩

attribute [local go_sem ↓] Go.wp_at_zero Go.wp_at_succ
set_option maxHeartbeats 2000000 in
set_option maxRecDepth 100000 in
theorem write_any (base g : Nat) (s : Sto) (i : Int) (b : ByteArray) (w : World) (h : Is w base g s) (hok : s.Ok) (hw : s.wr < 1000000) (hb : b.size ≤ maxLen) :
    Calls Try.prog 14 #[.pointer (some ⟨g, 0, none⟩), .int .i64 i, .string b] w (IsPost base g (write s i b.data.toList).1 (write s i b.data.toList).2 w) := by
  obtain ⟨hs, A, c, h⟩ := h
  unfold maxLen at hb
  have HR := Lib.hid (reached_any g A c s i w h.blk hok.some_ hok.few)
  by_cases hr : reach s i = 0
  · rw [hr] at HR
    by_cases hl : b.size = 256
    · obtain ⟨hoff, hi0, hi1⟩ := reach_zero hr
      obtain ⟨I, rfl⟩ := Int.eq_ofNat_of_zero_le hi0
      obtain ⟨q, x, ob, rfl, hcq, hx, hob, hbx, hbk⟩ := h.row (show I < s.bs.length by omega)
      have hobl : ob.length = 256 := hok.whole ob (List.mem_of_getElem? hob)
      obtain ⟨c0, c1, c2, c3, c4⟩ := blk_cells h.blk
      have f1 := h.blk.frozen 1
      have f2 := h.blk.frozen 2
      have f3 := h.blk.frozen 3
      have hl0 := hok.l0
      have hl1 := hok.l1
      have hw0 := hok.w0
      have hgd : s.bs.getD I [] = ob := by rw [List.getD_eq_getElem?_getD, hob]; rfl
      have hbl : b.data.toList.length = 256 := by simpa using hl
      have hlb : ((b.size : Int) != 256) = false := by simp [hl]
      have hxg : x ≠ g := blk_ne hbk h.blk (by decide)
      by_cases h1 : s.left = 1
      · -- the armed write
        obtain ⟨K, hK⟩ := Int.eq_ofNat_of_zero_le hok.k0
        have hk1 := hok.k1
        have hqg : q ≠ g := by
          have := own_ne h.own h.blk (by decide)
          intro e
          exact this (by rw [e]; rfl)
        have HF : Hid (write s (I : Int) b.data.toList = (⟨s.bs.set I (b.data.toList.take K ++ ob.drop K), true, s.wr + 1, 0, s.keep⟩, 330)) := by
          show _ = _
          rw [write, if_neg (by simp [hr]), if_neg (by simp [hbl]), if_pos h1, Int.toNat_natCast, hK, Int.toNat_natCast, hgd]
        have hext : (b.extract 0 K).size = K := by
          have := congrArg List.length (Lib.extract_data b 0 K)
          simp at this ⊢
          omega
        obtain ⟨W', hcp, hnb, hoth, hsz, hbel⟩ := copy_blk (P := Try.prog) ((hbk.far (p := ⟨g, 2, none⟩) hxg (.int .i64 (s.wr + 1))).drew) hobl (b.extract 0 K) (by rw [hext]; omega) 79 9 5 Try.underlying79 byteSize
        have hB1 : Blk W' g 50 _ := (hoth g (fun e => hxg e.symm)).trans (h.blk.set 2 (.int .i64 (s.wr + 1))).drew
        have hst : St ((W'.setCell ⟨g, 1, none⟩ (.bool true)).setCell ⟨g, 3, none⟩ (.int .i64 0)) base g ⟨s.bs.set I (b.data.toList.take K ++ ob.drop K), true, s.wr + 1, 0, s.keep⟩ hs (some ⟨q, 0, none⟩) c := by
          refine h.block hx (b.data.toList.take K ++ ob.drop K) rfl ?_ ?_ (fun k hk hk2 => ?_)
          · have := (hB1.set 1 (.bool true)).set 3 (.int .i64 0)
            simpa [flds] using this
          · have e : (b.extract 0 K).data.toList ++ ob.drop (b.extract 0 K).size = b.data.toList.take K ++ ob.drop K := by rw [hext, Lib.extract_data]; simp
            rw [e] at hnb
            exact (hnb.far (p := ⟨g, 1, none⟩) hxg _).far (p := ⟨g, 3, none⟩) hxg _
          · rw [Below.heap_setCell _ _ _ _ hk, Below.heap_setCell _ _ _ _ hk, hoth k hk2]
            exact Below.heap_setCell _ _ _ _ hk
        have hkp : KeepS w ((W'.setCell ⟨g, 1, none⟩ (.bool true)).setCell ⟨g, 3, none⟩ (.int .i64 0)) := keepS_of h.blk hbk (fun k hk hk2 => by
          rw [Below.heap_setCell _ _ _ _ hk, Below.heap_setCell _ _ _ _ hk, hoth k hk2]
          exact Below.heap_setCell _ _ _ _ hk)
        have hbb : Below base w ((W'.setCell ⟨g, 1, none⟩ (.bool true)).setCell ⟨g, 3, none⟩ (.int .i64 0)) := (((((Below.refl base w).setCell (p := ⟨g, 2, none⟩) h.gb _).drew).trans (hbel base hbx)).setCell (p := ⟨g, 1, none⟩) h.gb _).setCell (p := ⟨g, 3, none⟩) h.gb _
        have hcop := hcp 3
        simp only [hv] at hcq hcop
        have d1 : W'.cell? ⟨g, 1, none⟩ = some (.bool s.off) := by rw [hB1.cell 1]; simp [flds]
        have d3 : W'.cell? ⟨g, 3, none⟩ = some (.int .i64 s.left) := by rw [hB1.cell 3]; simp [flds]
        have e1 := hB1.frozen 1
        have e3 := hB1.frozen 3
        have h1b : (s.left == 1) = true := by simpa using h1
        rw [hK] at c4
        have hKi : (K : Int) ≤ 256 := by omega
        have hKb : (K : Int) ≤ (b.size : Int) := by omega
        have hIl : (I : Int) < (s.bs.length : Int) := hi1
        clear hcp hnb hoth hsz hbel hB1 hob hbl hr h1 hgd hok hl hoff hx hK hext
        go_enter Try.func14, Try.ntmps14
        go_wp2_with fail
        refine HR.out.mono ?_
        rintro e w1 ⟨rfl, rfl⟩
        go_wp2_with fail
        go_region
        go_wp2_with fail
        go_ret
        rw [HF.out]
        exact ⟨rfl, ⟨hs, _, c, hst⟩, hbb, hkp⟩
      · obtain ⟨L, hL⟩ : ∃ L, L = max (s.left - 1) 0 := ⟨_, rfl⟩
        have HF : Hid (write s (I : Int) b.data.toList = (⟨s.bs.set I b.data.toList, s.off, s.wr + 1, L, s.keep⟩, 0)) := by
          show _ = _
          rw [write, if_neg (by simp [hr]), if_neg (by simp [hbl]), if_neg h1, Int.toNat_natCast, hL]
        have hlb1 : (s.left == 1) = false := by simpa using h1
        have hqg : q ≠ g := by
          have := own_ne h.own h.blk (by decide)
          intro e
          exact this (by rw [e]; rfl)
        have hB1 := (h.blk.set 2 (.int .i64 (s.wr + 1))).set 3 (.int .i64 L)
        obtain ⟨W', hcp, hnb, hoth, hsz, hbel⟩ := copy_blk (P := Try.prog) ((hbk.far (p := ⟨g, 2, none⟩) hxg (.int .i64 (s.wr + 1))).far (p := ⟨g, 3, none⟩) hxg (.int .i64 L)) hobl b (by omega) 79 9 5 Try.underlying79 byteSize
        have hst : St W' base g ⟨s.bs.set I b.data.toList, s.off, s.wr + 1, L, s.keep⟩ hs (some ⟨q, 0, none⟩) c := by
          refine h.block hx b.data.toList rfl ?_ ?_ (fun k hk hk2 => ?_)
          · have : Blk W' g 50 _ := (hoth g (fun e => hxg e.symm)).trans hB1
            simpa [flds] using this
          · have e : b.data.toList ++ ob.drop b.size = b.data.toList := by rw [List.drop_of_length_le (by omega), List.append_nil]
            rw [e] at hnb
            exact hnb
          · rw [hoth k hk2, Below.heap_setCell _ _ _ _ hk, Below.heap_setCell _ _ _ _ hk]
        have hkp : KeepS w W' := keepS_of h.blk hbk (fun k hk hk2 => by rw [hoth k hk2, Below.heap_setCell _ _ _ _ hk, Below.heap_setCell _ _ _ _ hk])
        have hbb : Below base w W' := (((Below.refl base w).setCell (p := ⟨g, 2, none⟩) h.gb _).setCell (p := ⟨g, 3, none⟩) h.gb _).trans (hbel base hbx)
        have hcop := hcp 3
        simp only [hv] at hcq hcop
        have hLc : (s.left < 1 ∧ L = 0) ∨ (2 ≤ s.left ∧ L = s.left - 1) := by omega
        clear hcp hnb hoth hsz hbel hB1 hob hbl hr h1 hgd hL hok hl hoff hx
        rcases hLc with ⟨hz, rfl⟩ | ⟨hz, rfl⟩
        all_goals
          go_enter Try.func14, Try.ntmps14
          go_wp2_with fail
          refine HR.out.mono ?_
          rintro e w1 ⟨rfl, rfl⟩
          go_wp2_with fail
          go_ret
          rw [HF.out]
          exact ⟨rfl, ⟨hs, _, c, hst⟩, hbb, hkp⟩
    · have HF : Hid (write s i b.data.toList = (s, 2)) := by
        show _ = _
        rw [write, if_neg (by simp [hr]), if_pos (by simpa using hl)]
      have hlb : ((b.size : Int) != 256) = true := by rw [bne_iff_ne]; omega
      clear hr
      go_enter Try.func14, Try.ntmps14
      go_wp2_with fail
      refine HR.out.mono ?_
      rintro e w1 ⟨rfl, rfl⟩
      go_wp2_with fail
      go_ret
      rw [HF.out]
      exact ⟨rfl, ⟨hs, A, c, h⟩, Below.refl _ _, KeepS.refl _⟩
  · have HF : Hid (write s i b.data.toList = (s, reach s i)) := by show _ = _; rw [write, if_pos hr]
    obtain ⟨e0, he0⟩ : ∃ e, e = reach s i := ⟨_, rfl⟩
    rw [← he0] at HR HF hr
    have he1 : (e0 != 0) = true := by simpa using hr
    have he2 : (e0 == 0) = false := by simpa using hr
    clear he0 hr
    go_enter Try.func14, Try.ntmps14
    go_wp2_with fail
    refine HR.out.mono ?_
    rintro e w1 ⟨rfl, rfl⟩
    go_wp2_with fail
    go_ret
    rw [HF.out]
    exact ⟨rfl, ⟨hs, A, c, h⟩, Below.refl _ _, KeepS.refl _⟩

set_option maxHeartbeats 1000000 in
set_option maxRecDepth 100000 in
theorem arm_any (base g : Nat) (s : Sto) (a k : Int) (w : World) (h : Is w base g s) (hok : s.Ok) :
    Calls Try.prog 16 #[.pointer (some ⟨g, 0, none⟩), .int .i64 a, .int .i64 k] w (IsPost base g (arm s a k).1 (arm s a k).2 w) := by
  obtain ⟨hs, A, c, h⟩ := h
  have HR := Lib.hid (reached_any g A c s 0 w h.blk hok.some_ hok.few)
  obtain ⟨c0, c1, c2, c3, c4⟩ := blk_cells h.blk
  have f3 := h.blk.frozen 3
  have f4 := h.blk.frozen 4
  cases hoff : s.off
  · have hr : reach s 0 = 0 := by
      have := hok.some_
      rw [reach, hoff, if_neg (by simp), if_neg (by omega)]
    rw [hr] at HR
    by_cases hbad : a < 1 ∨ k < 0 ∨ 256 < k
    · have HF : Hid (arm s a k = (s, 2)) := by show _ = _; rw [arm, hoff, if_neg (by simp), if_pos hbad]
      have hbad' := hbad
      clear hr hoff hbad
      by_cases g1 : a < 1
      · go_enter Try.func16, Try.ntmps16
        go_wp2_with fail
        refine HR.out.mono ?_
        rintro e w1 ⟨rfl, rfl⟩
        go_wp2_with fail
        go_ret
        rw [HF.out]
        exact ⟨rfl, ⟨hs, A, c, h⟩, Below.refl _ _, KeepS.refl _⟩
      · by_cases g2 : k < 0
        all_goals
          go_enter Try.func16, Try.ntmps16
          go_wp2_with fail
          refine HR.out.mono ?_
          rintro e w1 ⟨rfl, rfl⟩
          go_wp2_with fail
          go_ret
          rw [HF.out]
          exact ⟨rfl, ⟨hs, A, c, h⟩, Below.refl _ _, KeepS.refl _⟩
    · have HF : Hid (arm s a k = (⟨s.bs, s.off, s.wr, a, k⟩, 0)) := by show _ = _; rw [arm, if_neg (by simp [hoff]), if_neg hbad]
      have g1 : 1 ≤ a := by omega
      have g2 : 0 ≤ k := by omega
      have g3 : k ≤ 256 := by omega
      clear hbad hr hoff
      go_enter Try.func16, Try.ntmps16
      go_wp2_with fail
      refine HR.out.mono ?_
      rintro e w1 ⟨rfl, rfl⟩
      go_wp2_with fail
      go_ret
      rw [HF.out]
      refine ⟨rfl, ⟨hs, A, c, h.fields rfl ?_ (fun x hx => ?_)⟩, ((Below.refl base w).setCell (p := ⟨g, 3, none⟩) h.gb _).setCell (p := ⟨g, 4, none⟩) h.gb _, keepS_of1 h.blk (fun x hx => by rw [Below.heap_setCell _ _ _ _ hx, Below.heap_setCell _ _ _ _ hx])⟩
      · have := (h.blk.set 3 (.int .i64 a)).set 4 (.int .i64 k)
        simpa [flds] using this
      · rw [Below.heap_setCell _ _ _ _ hx, Below.heap_setCell _ _ _ _ hx]
  · have hr : reach s 0 = 330 := by rw [reach, hoff, if_pos rfl]
    rw [hr] at HR
    have HF : Hid (arm s a k = (s, 330)) := by show _ = _; rw [arm, hoff, if_pos rfl]
    clear hr hoff
    go_enter Try.func16, Try.ntmps16
    go_wp2_with fail
    refine HR.out.mono ?_
    rintro e w1 ⟨rfl, rfl⟩
    go_wp2_with fail
    go_ret
    rw [HF.out]
    exact ⟨rfl, ⟨hs, A, c, h⟩, Below.refl _ _, KeepS.refl _⟩

set_option maxHeartbeats 1000000 in
theorem power_any (base g : Nat) (s : Sto) (on : Bool) (w : World) (h : Is w base g s) (hok : s.Ok) :
    Calls Try.prog 44 #[.pointer (some ⟨g, 0, none⟩), .bool on] w (IsPost base g (power s on) 0 w) := by
  obtain ⟨hs, A, c, h⟩ := h
  have HM := Lib.hid (made_yes g A _ c s w h.blk hok.some_)
  obtain ⟨c0, c1, c2, c3, c4⟩ := blk_cells h.blk
  have f1 := h.blk.frozen 1
  have f3 := h.blk.frozen 3
  go_enter Try.func44, Try.ntmps44
  go_wp2_with fail
  refine HM.out.mono ?_
  rintro e w1 ⟨rfl, rfl⟩
  go_wp2_with fail
  go_ret
  refine ⟨rfl, ⟨hs, A, c, h.fields rfl ?_ (fun x hx => ?_)⟩, ((Below.refl base w).setCell (p := ⟨g, 1, none⟩) h.gb _).setCell (p := ⟨g, 3, none⟩) h.gb _, keepS_of1 h.blk (fun x hx => by rw [Below.heap_setCell _ _ _ _ hx, Below.heap_setCell _ _ _ _ hx])⟩
  · have := (h.blk.set 1 (.bool (!on))).set 3 (.int .i64 0)
    simpa [flds, power] using this
  · rw [Below.heap_setCell _ _ _ _ hx, Below.heap_setCell _ _ _ _ hx]
theorem boot_any (base g : Nat) (s : Sto) (w : World) (h : Is w base g s) (hok : s.Ok) :
    Calls Try.prog 21 #[.pointer (some ⟨g, 0, none⟩)] w (IsPost base g (power s true) 0 w) := by
  go_enter Try.func21, Try.ntmps21
  go_wp2_with fail
  refine (power_any base g s true w h hok).mono ?_
  rintro e w1 ⟨rfl, h1, h2, h3⟩
  go_wp2_with fail
  go_ret
  exact ⟨rfl, h1, h2, h3⟩
theorem off_any (base g : Nat) (s : Sto) (w : World) (h : Is w base g s) (hok : s.Ok) :
    Calls Try.prog 27 #[.pointer (some ⟨g, 0, none⟩)] w (IsPost base g (power s false) 0 w) := by
  go_enter Try.func27, Try.ntmps27
  go_wp2_with fail
  refine (power_any base g s false w h hok).mono ?_
  rintro e w1 ⟨rfl, h1, h2, h3⟩
  go_wp2_with fail
  go_ret
  exact ⟨rfl, h1, h2, h3⟩
theorem on_any (base g : Nat) (s : Sto) (w : World) (h : Is w base g s) (hok : s.Ok) :
    Calls Try.prog 19 #[.pointer (some ⟨g, 0, none⟩)] w fun e w' => e = .returned (.bool (!s.off)) ∧ w = w' := by
  obtain ⟨hs, A, c, h⟩ := h
  have HM := Lib.hid (made_yes g A _ c s w h.blk hok.some_)
  have HP := Lib.hid (powered_any g A _ c s w h.blk)
  go_enter Try.func19, Try.ntmps19
  go_wp2_with fail
  refine HM.out.mono ?_
  rintro e w1 ⟨rfl, rfl⟩
  go_wp2_with fail
  refine HP.out.mono ?_
  rintro e w1 ⟨rfl, rfl⟩
  go_wp2_with fail
  go_ret
  exact ⟨rfl, rfl⟩
theorem writes_any (base g : Nat) (s : Sto) (w : World) (h : Is w base g s) (hok : s.Ok) :
    Calls Try.prog 20 #[.pointer (some ⟨g, 0, none⟩)] w fun e w' => e = .returned (.int .i64 s.wr) ∧ w = w' := by
  obtain ⟨hs, A, c, h⟩ := h
  have HM := Lib.hid (made_yes g A _ c s w h.blk hok.some_)
  obtain ⟨c0, c1, c2, c3, c4⟩ := blk_cells h.blk
  go_enter Try.func20, Try.ntmps20
  go_wp2_with fail
  refine HM.out.mono ?_
  rintro e w1 ⟨rfl, rfl⟩
  go_wp2_with fail
  go_ret
  exact ⟨rfl, rfl⟩
theorem size_any (base g : Nat) (s : Sto) (w : World) (h : Is w base g s) (hok : s.Ok) :
    Calls Try.prog 24 #[.pointer (some ⟨g, 0, none⟩)] w fun e w' => e = .returned (.int .i64 s.bs.length) ∧ w = w' := by
  obtain ⟨hs, A, c, h⟩ := h
  have HM := Lib.hid (made_yes g A _ c s w h.blk hok.some_)
  obtain ⟨c0, c1, c2, c3, c4⟩ := blk_cells h.blk
  go_enter Try.func24, Try.ntmps24
  go_wp2_with fail
  refine HM.out.mono ?_
  rintro e w1 ⟨rfl, rfl⟩
  go_wp2_with fail
  go_ret
  exact ⟨rfl, rfl⟩

def str (l : List UInt8) : ByteArray := ⟨l.toArray⟩
theorem str_data (l : List UInt8) : (str l).data.toList = l := rfl
theorem str_size (l : List UInt8) : (str l).size = l.length := by simp [str, ByteArray.size]
theorem str_of (s : ByteArray) : str s.data.toList = s := by simp [str]
theorem str_inj {l m : List UInt8} (h : str l = str m) : l = m := by rw [← str_data l, h, str_data]

theorem blk_byts {w : World} {g : Nat} {T : TypeId} {b : List UInt8} (h : Blk w g T (bv b).toArray) : Byts w g b :=
  ⟨h.lt, fun i c hc => ⟨by rw [h.cell i]; simp [bv, hc], h.frozen i⟩⟩

set_option maxHeartbeats 1000000 in
theorem read_any (base g : Nat) (s : Sto) (i : Int) (w : World) (h : Is w base g s) (hok : s.Ok) :
    Calls Try.prog 26 #[.pointer (some ⟨g, 0, none⟩), .int .i64 i] w fun e w' => e = .returned (.tuple #[.string (str (readS s i).1), .int .i64 (readS s i).2]) ∧ w = w' := by
  obtain ⟨hs, A, c, h⟩ := h
  have HR := Lib.hid (reached_any g A c s i w h.blk hok.some_ hok.few)
  by_cases hr : reach s i = 0
  · rw [hr] at HR
    obtain ⟨hoff, hi0, hi1⟩ := reach_zero hr
    obtain ⟨I, rfl⟩ := Int.eq_ofNat_of_zero_le hi0
    obtain ⟨q, x, ob, rfl, hcq, hx, hob, hbx, hbk⟩ := h.row (show I < s.bs.length by omega)
    have hobl : ob.length = 256 := hok.whole ob (List.mem_of_getElem? hob)
    obtain ⟨c0, c1, c2, c3, c4⟩ := blk_cells h.blk
    have hgd : s.bs.getD I [] = ob := by rw [List.getD_eq_getElem?_getD, hob]; rfl
    have HF : Hid (readS s (I : Int) = (ob, 0)) := by
      show _ = _
      rw [readS, if_neg (by simp [hr]), Int.toNat_natCast, hgd]
    have hback := (blk_byts hbk).back (P := Try.prog) 79 9 5 256 256 hobl.symm Try.underlying79 Try.underlying5 Try.underlying9
    simp only [hv] at hcq
    clear hgd hob hr hoff hok hx
    go_enter Try.func26, Try.ntmps26
    go_wp2_with fail
    refine HR.out.mono ?_
    rintro e w1 ⟨rfl, rfl⟩
    go_wp2_with fail
    go_ret2
    exact ⟨by rw [HF.out]; rfl, rfl⟩
  · have HF : Hid (readS s i = ([], reach s i)) := by show _ = _; rw [readS, if_pos hr]
    obtain ⟨e0, he0⟩ : ∃ e, e = reach s i := ⟨_, rfl⟩
    rw [← he0] at HR HF hr
    have he1 : (e0 != 0) = true := by simpa using hr
    have he2 : (e0 == 0) = false := by simpa using hr
    clear he0 hr
    go_enter Try.func26, Try.ntmps26
    go_wp2_with fail
    refine HR.out.mono ?_
    rintro e w1 ⟨rfl, rfl⟩
    go_wp2_with fail
    go_ret2
    exact ⟨by rw [HF.out]; rfl, rfl⟩
end Go.Proofs.Ytdhnegcblnpmfaa.StorW

namespace Go.Proofs.Ytdhnegcblnpmfaa.StorW
open Go.RowKit Mem Stor
set_option linter.unusedVariables false

/-- an append whose run is known, at a step of a region that draws its order -/
theorem step_app {P : Program} {ops : Array Oper} {o : Oper} {a : Act} {K : Act → World → Prop} {Q : Exit → Act → World → Prop} {E : Prop} {W W' : World} {t u : TypeId} {v v2 r : Value} (hgd : o.guard = none) (s x : Operand)
    (ho : o.op = .call { callee := .builtin .append, args := #[s, x], argTypes := #[t, u] }) (hs : a.eval s = v) (hx : a.eval x = v2) (hrun : (Builtin.append_ #[t, u] o.type #[v, v2]).run P W = .ok r W')
    (h : K (a.put o.dst r) W') : if Region.wanted o (yielded ops a.tmps) = true then Oper.wp P o a W K Q else E := by
  have hw : Region.wanted o (yielded ops a.tmps) = true := by simp [Region.wanted, hgd]
  rw [if_pos hw]
  unfold Oper.wp execOp
  simp only [ho, resolve, invoke, builtin, Sem.run_bind, Sem.run_pure, Result.andThen_ok, List.map_toArray, List.map_cons, List.map_nil, hs, hx, hrun]
  exact h

theorem byteInfo : (Try.prog.info? 5).map (fun i => (i.zero, i.size, i.bytes)) = some (some (.int .u8 0), 1, 1) := by kernel_rfl
theorem rowInfo : (Try.prog.info? 79).map (fun i => (i.zero, i.size, i.bytes)) = some (some (.slice none 0 0), 1, 24) := by kernel_rfl
theorem blank_made : madeCells (Value.int IntKind.u8 0).cells (256 * 1) = (bv zeros).toArray := by
  apply Array.ext'
  rw [show (Value.int IntKind.u8 0).cells = #[Value.int IntKind.u8 0] from rfl, toList_madeCells_one]
  show List.replicate 256 (Value.int IntKind.u8 0) = (bv zeros).toArray.toList
  rw [List.toList_toArray, bv, zeros, List.map_replicate]
  rfl
theorem make_blank (W : World) : (Instr.makeSlice 79 (.int .i64 256) (.int .i64 256)).run Try.prog W = .ok (.slice (some ⟨W.heap.size, 0, none⟩) 256 256) (W.alloc (.cells (bv zeros).toArray 5)) := by
  obtain ⟨i0, hi, hz0, hz1, hz2⟩ := info_parts byteInfo
  have := run_make (P := Try.prog) W 79 5 i0 _ Try.underlying79 hi hz0 .i64 .i64 256 256 (by omega) (by omega) (by rw [hz2]; omega) (by omega)
  rw [hz1] at this
  rw [this]
  rw [show (256 : Int).toNat * 1 = 256 * 1 from rfl, blank_made]
  rfl

def NewRel (w : World) (N : Nat) (i : Value) (wr : World) : Prop := ∃ k : Nat, k ≤ N ∧ i = .int .i64 k ∧ Is wr w.heap.size w.heap.size (new k) ∧ Below w.heap.size w wr

def NewPost (w : World) (N : Nat) (x : Ending) (w' : World) : Prop := ∃ g, x = .returned (.tuple #[.pointer (some ⟨g, 0, none⟩), .int .i64 0]) ∧ Is w' w.heap.size g (new N) ∧ Below w.heap.size w w'

attribute [local go_sem ↓] Go.wp_at_zero Go.wp_at_succ
set_option maxHeartbeats 2000000 in
set_option maxRecDepth 100000 in
theorem new_any (n : Nat) (w : World) (h1 : 1 ≤ n) (h4 : n ≤ 400) :
    Calls Try.prog 13 #[.int .i64 n] w (NewPost w n) := by
  obtain ⟨i0, hi, hz0, hz1, hz2⟩ := info_parts rowInfo
  go_enter Try.func13, Try.ntmps13
  go_wp2_with fail
  go_loopw [14] (fun i wr => NewRel w n i wr) (fun i _ => n - (intOf i).toNat)
  case atStart =>
    refine ⟨0, by omega, rfl, ⟨[], none, 0, Nat.le_refl _, ?_, World.ownsRow_nil _ _ _ _, rfl, List.nodup_nil, fun i h b hh => by simp at hh⟩, (Below.refl _ _).alloc (Nat.le_refl _) _⟩
    exact Blk.new w _ _
  case round =>
    obtain ⟨k, hk, rfl, ⟨hs, A, c, h⟩, hbel⟩ := hrel
    by_cases hlt : k < n
    · have c0 : wr.cell? ⟨w.heap.size, 0, none⟩ = some (.slice A (new k).bs.length c) := h.blk.cell 0
      have hbl : (new k).bs.length = k := by simp [new]
      have f0 := h.blk.frozen 0
      have hgl := h.blk.lt
      have hsz := hbel.size
      have hmk := make_blank
      have hown1 := ((h.own.alloc (.cells (bv zeros).toArray 5)).alloc (.cells #[hv wr.heap.size] 79))
      obtain ⟨A', c', W', hrun, hown2, hgr, hbel2, hob⟩ := app_own (P := Try.prog) ((wr.alloc (.cells (bv zeros).toArray 5)).alloc (.cells #[hv wr.heap.size] 79)).drew w.heap.size 48 48 79 i0 _ 1 24 Try.underlying48 hi hz0 hz1 hz2 rfl (by omega) A _ c _ hown1 _ 1 1 _ (Rd.one (wr.alloc (.cells (bv zeros).toArray 5)) (hv wr.heap.size) 79) (by simp) (by simp; rfl) (by simp [maxLen]; omega) (by omega) (by simp; omega)
      rw [hbl] at hrun hown2 hgr hob c0
      have HR := Lib.hid hrun
      simp only [World.size_alloc, hv] at HR
      have hgk : Blk W' w.heap.size 50 (flds A (new k).bs.length c (new k)) := ((h.blk.alloc _).alloc _).drew.grown hgr (fun e => own_ne h.own h.blk (by decide) (by rw [hbl]; exact e.symm))
      have d0 : W'.cell? ⟨w.heap.size, 0, none⟩ = some (.slice A (new k).bs.length c) := hgk.cell 0
      have e0 := hgk.frozen 0
      rw [hbl] at d0
      have hst : St (W'.setCell ⟨w.heap.size, 0, none⟩ (.slice A' (k + 1) c')) w.heap.size w.heap.size (new (k + 1)) (hs ++ [wr.heap.size]) A' c' := by
        have hbl1 : (new (k + 1)).bs.length = k + 1 := by simp [new]
        have hhl : hs.length = k := by rw [h.len, hbl]
        have hxs : ∀ x ∈ hs, x < wr.heap.size := by
          intro x hx
          obtain ⟨i, hi, rfl⟩ := List.getElem_of_mem hx
          have hi' : i < (new k).bs.length := by rw [hbl, ← hhl]; exact hi
          exact (h.data i hs[i] _ (List.getElem?_eq_getElem hi) (List.getElem?_eq_getElem hi')).2.lt
        refine ⟨Nat.le_refl _, ?_, ?_, by rw [List.length_append, hhl, hbl1]; rfl, ?_, fun i x b h1 h2 => ?_⟩
        · have := hgk.set 0 (.slice A' (k + 1) c')
          rw [hbl1]
          simpa [flds, new] using this
        · rw [hbl1, List.map_append]
          exact ownsRow_setCell_other hown2 (fun e => by
            rcases hob with h' | h'
            · exact own_ne h.own h.blk (by decide) (by rw [hbl, ← h']; exact e)
            · rw [h'] at e
              injection e with e
              simp at e
              omega) _
        · rw [List.nodup_append]
          refine ⟨h.nodup, by simp, fun a ha b hb => ?_⟩
          rw [List.mem_singleton] at hb
          have := hxs a ha
          omega
        · have hb : b = zeros := by
            have := List.mem_of_getElem? h2
            rw [new] at this
            exact List.eq_of_mem_replicate this
          subst hb
          have key : w.heap.size ≤ x ∧ Blk ((wr.alloc (.cells (bv zeros).toArray 5)).alloc (.cells #[hv wr.heap.size] 79)).drew x 5 (bv zeros).toArray := by
            by_cases hik : i < k
            · rw [List.getElem?_append_left (by omega)] at h1
              have h2' : (new k).bs[i]? = some zeros := by simp [new, hik]
              obtain ⟨h3, h4⟩ := h.data i x zeros h1 h2'
              exact ⟨h3, ((h4.alloc _).alloc _).drew⟩
            · have : i = hs.length := by
                have := (List.getElem?_eq_some_iff.1 h1).1
                simp at this
                omega
              subst this
              rw [List.getElem?_append_right (Nat.le_refl _), Nat.sub_self] at h1
              injection h1 with h1
              subst h1
              exact ⟨hsz, ((Blk.new wr _ _).alloc _).drew⟩
          refine ⟨key.1, ?_⟩
          have hxg : x ≠ w.heap.size := blk_ne key.2 ((h.blk.alloc _).alloc _).drew (by decide)
          refine Blk.far (key.2.grown hgr (fun e => ?_)) (p := ⟨w.heap.size, 0, none⟩) hxg _
          exact own_ne (((h.own.alloc _).alloc _)) key.2 (by decide) (by rw [hbl]; exact e.symm)
      have hbb : Below w.heap.size w (W'.setCell ⟨w.heap.size, 0, none⟩ (.slice A' (k + 1) c')) := ((((hbel.alloc hsz _).alloc (by simp; omega) _).drew).trans hbel2).setCell (p := ⟨w.heap.size, 0, none⟩) (Nat.le_refl _) _
      clear hrun hown1 hown2 hgr hbel2 hob hgk
      go_wp2_with fail
      go_region_law ((refine step_app rfl _ _ (by rfl) (by rfl) (by rfl) HR.out ?_))
      all_goals
        go_wp2_with fail
        exact ⟨⟨k + 1, by omega, by go_num, ⟨_, _, _, hst⟩, hbb⟩, by simp [intOf]; omega⟩
    · obtain rfl : k = n := by omega
      go_wp2_with fail
      go_ret2
      exact ⟨w.heap.size, rfl, ⟨hs, A, c, h⟩, hbel⟩
end Go.Proofs.Ytdhnegcblnpmfaa.StorW

namespace Go.Proofs.Ytdhnegcblnpmfaa.StorW
open Go.RowKit Mem Stor
set_option linter.unusedVariables false

theorem new_no (n : Int) (w : World) (h : n < 1 ∨ 400 < n) :
    Calls Try.prog 13 #[.int .i64 n] w fun e w' => e = .returned (.tuple #[.pointer none, .int .i64 2]) ∧ w = w' := by
  by_cases h1 : n < 1
  all_goals
    go_enter Try.func13, Try.ntmps13
    go_wp2_with fail
    go_ret2
    exact ⟨rfl, rfl⟩

theorem strInfo : (Try.prog.info? 9).map (fun i => (i.zero, i.size, i.bytes)) = some (some (.string ByteArray.empty), 1, 16) := by kernel_rfl
/-- texts as cells -/
def sv (l : List (List UInt8)) : List Value := l.map fun x => .string (str x)
theorem sv_length (l : List (List UInt8)) : (sv l).length = l.length := by simp [sv]
theorem sv_snoc (l : List (List UInt8)) (x : List UInt8) : sv (l ++ [x]) = sv l ++ [.string (str x)] := by simp [sv]

theorem nil_cap {W : World} {base : Nat} {e : TypeId} {size : Nat} {A : Option Addr} {n c : Nat} {xs : List Value} (h : W.ownsRow base e size (.slice A n c) n xs) : A = none → c = 0 := by
  rcases h.2 with ⟨hv, h0⟩ | ⟨g, cap, cur, hv, _⟩
  · injection hv with _ _ hc; exact fun _ => hc
  · injection hv with hA _ _; intro h'; rw [hA] at h'; cases h'
/-- strings of the call's own stay where blocks of strings stay -/
theorem own_keep {w w' : World} {base size : Nat} {v : Value} {n : Nat} {xs : List Value} (h : w.ownsRow base 9 size v n xs) (hk : KeepS w w') : w'.ownsRow base 9 size v n xs := by
  refine ⟨h.1, ?_⟩
  rcases h.2 with h2 | ⟨g, cap, cur, hv, hg, hh, r⟩
  · exact .inl h2
  · exact .inr ⟨g, cap, cur, hv, hg, hk _ _ _ _ (by decide) (by decide) hh, r⟩
def ImgRel (w : World) (s : Sto) (o i : Value) (wr : World) : Prop :=
  ∃ (k : Nat) (A : Option Addr) (c : Nat), k ≤ s.bs.length ∧ i = .int .i64 k ∧ o = .slice A k c ∧ (A = none → c = 0) ∧ wr.ownsRow w.heap.size 9 1 (.slice A k c) k (sv (s.bs.take k)) ∧ Below w.heap.size w wr

def ImgPost (w : World) (l : List (List UInt8)) (x : Ending) (w' : World) : Prop := ∃ A c, x = .returned (.slice A l.length c) ∧ w'.ownsRow w.heap.size 9 1 (.slice A l.length c) l.length (sv l) ∧ Below w.heap.size w w'

set_option maxHeartbeats 1000000 in
set_option maxRecDepth 100000 in
theorem image_any (base g : Nat) (s : Sto) (w : World) (h : Is w base g s) (hok : s.Ok) :
    Calls Try.prog 17 #[.pointer (some ⟨g, 0, none⟩)] w (ImgPost w s.bs) := by
  obtain ⟨i0, hi, hz0, hz1, hz2⟩ := info_parts strInfo
  obtain ⟨hs, A, c, h⟩ := h
  have HM := Lib.hid (made_yes g A _ c s w h.blk hok.some_)
  obtain ⟨c0, c1, c2, c3, c4⟩ := blk_cells h.blk
  have h4 := hok.few
  go_enter Try.func17, Try.ntmps17
  go_wp2_with fail
  refine HM.out.mono ?_
  rintro e w1 ⟨rfl, rfl⟩
  go_wp2_with fail
  go_loopw [3, 14] (fun o i wr => ImgRel w s o i wr) (fun _ i _ => s.bs.length - (intOf i).toNat)
  case atStart => exact ⟨0, none, 0, by omega, rfl, rfl, fun _ => rfl, World.ownsRow_nil _ _ _ _, Below.refl _ _⟩
  case round =>
    obtain ⟨k, A1, cc1, hk, rfl, rfl, hcap, hown, hbel⟩ := hrel
    by_cases hlt : k < s.bs.length
    · obtain ⟨q, x, ob, rfl, hcq, hx, hob, hbx, hbk⟩ := (h.below hbel).row hlt
      have hobl : ob.length = 256 := hok.whole ob (List.mem_of_getElem? hob)
      have hback := (blk_byts hbk).back (P := Try.prog) 79 9 5 256 256 hobl.symm Try.underlying79 Try.underlying5 Try.underlying9
      change _ = Result.ok (Value.string (str ob)) wr at hback
      have hsz := hbel.size
      obtain ⟨A3, c3, W4, hrun, hown4, _, hb5, _⟩ := app_own (P := Try.prog) (wr.alloc (.cells #[.string (str ob)] 9)) w.heap.size 34 34 9 i0 _ 1 16 Try.underlying34 hi hz0 hz1 hz2 rfl (by omega) A1 _ cc1 _ (hown.alloc _) _ 1 1 _ (Rd.one wr (.string (str ob)) 9) (by simp) (by simp; rfl) (by simp [maxLen]; omega) (by omega) (by simp; omega)
      have HC := Lib.hid (nil_cap hown4)
      have HO : Hid (W4.ownsRow w.heap.size 9 1 (.slice A3 (k + 1) c3) (k + 1) (sv (s.bs.take (k + 1)))) := by
        show World.ownsRow _ _ _ _ _ _ _
        rw [take_snoc_some hob, sv_snoc]
        exact hown4
      have hb6 := (hbel.alloc hsz (.cells #[.string (str ob)] 9)).trans hb5
      have HR := Lib.hid hrun
      simp only [hv] at hcq
      clear hrun hb5 hown4 hob hx hok hown h hbk hcap
      go_wp2_with (at_builtin; refine wpList_app rfl _ _ rfl rfl rfl HR.out ?_)
      exact ⟨⟨k + 1, A3, c3, by omega, by go_num, rfl, HC.out, HO.out, hb6⟩, by simp [intOf]; omega⟩
    · obtain rfl : k = s.bs.length := by omega
      rw [List.take_length] at hown
      go_wp2_with fail
      go_ret
      exact ⟨A1, cc1, rfl, hown, hbel⟩

/-- a text, filled up with noughts -/
def wholeL (t : List UInt8) : List UInt8 := t ++ zeros.drop t.length
theorem wholeL_length (t : List UInt8) (h : t.length ≤ 256) : (wholeL t).length = 256 := by
  rw [wholeL, List.length_append, List.length_drop, zeros_length]; omega

set_option maxHeartbeats 1000000 in
set_option maxRecDepth 100000 in
theorem whole_any (t : ByteArray) (w : World) (h : t.size ≤ 256) :
    Calls Try.prog 18 #[.string t] w fun e w' => e = .returned (.string (str (wholeL t.data.toList))) ∧ Below w.heap.size w w' := by
  have hmk := make_blank
  obtain ⟨W', hcp, hnb, hoth, hsz, hbel⟩ := copy_blk (P := Try.prog) (Blk.new w 5 (bv zeros).toArray) zeros_length t h 79 9 5 Try.underlying79 byteSize
  have hcop := hcp 3
  have hwl : wholeL t.data.toList = t.data.toList ++ zeros.drop t.size := by rw [wholeL]; simp
  have hlen := wholeL_length t.data.toList (by simpa using h)
  have hback := (blk_byts hnb).back (P := Try.prog) 79 9 5 256 256 (by rw [← hwl]; exact hlen.symm) Try.underlying79 Try.underlying5 Try.underlying9
  rw [← hwl] at hback
  change _ = Result.ok (Value.string (str (wholeL t.data.toList))) W' at hback
  simp only [hv] at hcop
  have hbb := ((Below.refl w.heap.size w).alloc (Nat.le_refl _) (.cells (bv zeros).toArray 5)).trans (hbel w.heap.size (Nat.le_refl _))
  clear hcp hnb hoth hsz hbel hwl hlen
  obtain ⟨L, hL⟩ : ∃ L, L = wholeL t.data.toList := ⟨_, rfl⟩
  rw [← hL] at hback
  have HL := Lib.hid hL
  clear hL
  go_enter Try.func18, Try.ntmps18
  go_wp2_with fail
  go_ret
  exact ⟨by rw [← HL.out]; rfl, hbb⟩
end Go.Proofs.Ytdhnegcblnpmfaa.StorW

namespace Go.Proofs.Ytdhnegcblnpmfaa.StorW
open Go.RowKit Mem Stor
set_option linter.unusedVariables false

def Txs (w : World) (A : Option Addr) (n : Nat) (l : List (List UInt8)) : Prop := Row w A n (sv l)
theorem Txs.len {w : World} {A : Option Addr} {n : Nat} {l : List (List UInt8)} (h : Txs w A n l) : l.length = n := by have := h.1; rwa [sv_length] at this
theorem Txs.below {w w' : World} {A : Option Addr} {n : Nat} {l : List (List UInt8)} (h : Txs w A n l) (hb : Below w.heap.size w w') : Txs w' A n l := Row.below h hb
theorem Txs.at_ {w : World} {A : Option Addr} {n : Nat} {l : List (List UInt8)} (h : Txs w A n l) {k : Nat} (hk : k < n) : ∃ b off s, A = some ⟨b, off, none⟩ ∧ b < w.heap.size ∧ l[k]? = some s ∧ w.cell? ⟨b, off + k, none⟩ = some (.string (str s)) := by
  obtain ⟨b, off, v, e, hlt, hv, hc⟩ := Row.at_ h hk
  rw [sv, List.getElem?_map] at hv
  cases hs : l[k]? with
  | none => rw [hs] at hv; cases hv
  | some s => rw [hs] at hv; injection hv with hv; subst hv; exact ⟨b, off, s, e, hlt, rfl, hc⟩
theorem Txs.of_strs {w : World} {A : Option Addr} {n : Nat} {l : List ByteArray} (h : Strs w A n l) : Txs w A n (l.map (·.data.toList)) := by
  have e : sv (l.map (·.data.toList)) = l.map Value.string := by
    simp only [sv, List.map_map]
    exact List.map_congr_left fun s _ => by simp [str_of]
  unfold Txs
  rw [e]
  exact h
theorem Txs.of_ownc {w : World} {base : Nat} {A : Option Addr} {n c : Nat} {l : List (List UInt8)} (h : OwnC w base 1 A n c (sv l)) : Txs w A n l := by
  have hl := h.len
  rw [Nat.mul_one] at hl
  refine ⟨hl, fun hn => ?_⟩
  obtain ⟨g, hA, _, hlt, h1, _⟩ := h.room (by have := h.le; omega)
  exact ⟨g, 0, hA, hlt, fun i v hv => by rw [Nat.zero_add, h1 i (by rw [Nat.mul_one, ← hl]; exact (List.getElem?_eq_some_iff.1 hv).1), hv]⟩
theorem Txs.nil (w : World) (A : Option Addr) : Txs w A 0 [] := Row.nil w A
theorem str_list (x : List UInt8) : (str x).toList = x := by rw [ByteArray.toList_eq, str_data]
theorem str_ne {x y : List UInt8} (h : x ≠ y) : ((str x).toList == (str y).toList) = false := by
  rw [str_list, str_list, beq_eq_false_iff_ne]; exact h
end Go.Proofs.Ytdhnegcblnpmfaa.StorW

namespace Go.Proofs.Ytdhnegcblnpmfaa.JrnW
open Go.RowKit Mem Jrn PackW FrameW
set_option linter.unusedVariables false
set_option linter.unusedSimpArgs false

def UsePost (l : List (List UInt8)) (w : World) (e : Ending) (w' : World) : Prop := ∃ A c, e = .returned (.tuple #[.slice A l.length c, .int .i64 0]) ∧ Txs w' A l.length l ∧ Below w.heap.size w w'
theorem txs_own {w : World} {base : Nat} {e : TypeId} {A : Option Addr} {n c : Nat} {l : List (List UInt8)} (h : w.ownsRow base e 1 (.slice A n c) n (StorW.sv l)) : Txs w A n l := Txs.of_ownc (OwnC.of_own h)
theorem usable_any (base g : Nat) (s : Stor.Sto) (w : World) (h : StorW.Is w base g s) (hok : s.Ok) (hon : s.off = false) (h4 : 4 ≤ s.bs.length) :
    Calls Try.prog 53 #[.pointer (some ⟨g, 0, none⟩)] w (UsePost s.bs w) := by
  have HR := Lib.hid (StorW.read_any base g s 0 w h hok)
  have e0 : (Stor.readS s 0).2 = 0 := by
    have h1 := hok.some_
    have hne : s.bs ≠ [] := by intro e; rw [e] at h4; simp at h4
    simp [Stor.readS, Stor.reach, hon, hne]
  obtain ⟨t, x, ht⟩ : ∃ t x, Stor.readS s 0 = (t, x) := pair_of _
  rw [ht] at HR e0
  simp only at e0
  subst e0
  have HS := Lib.hid (StorW.size_any base g s w h hok)
  have HI := Lib.hid (StorW.image_any base g s w h hok)
  have t1 : ¬ (s.bs.length : Int) < 4 := by omega
  have t2 : decide (s.bs.length < 4) = false := decide_eq_false (by omega)
  have t3 : decide ((s.bs.length : Int) < 4) = false := decide_eq_false (by omega)
  clear ht hon h4 h hok
  go_enter Try.func53, Try.ntmps53
  go_wp2_with fail
  refine HR.out.mono ?_
  rintro e w1 ⟨rfl, rfl⟩
  go_wp2_with fail
  refine HS.out.mono ?_
  rintro e w1 ⟨rfl, rfl⟩
  go_wp2_with fail
  refine HI.out.mono ?_
  rintro e w1 ⟨A, c, rfl, o1, b1⟩
  have HO := Lib.hid (txs_own o1)
  clear o1
  go_wp2_with fail
  go_ret2
  exact ⟨A, c, rfl, HO.out, b1⟩
end Go.Proofs.Ytdhnegcblnpmfaa.JrnW
