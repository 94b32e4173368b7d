/-
  Merged: A store that no call made: what each call answers; the walk of StoreNobody.; Contracts: journal.Open, journal.Format.; A journal's state: what each call leaves, and what a crash leaves (plain).; Contract: musterlaw34.awake.; The walk of musterlaw34.JournalNobody.
-/
import Derived.Test.YtdhnegcblnpmfaaK10
import Derived.Test.YtdhnegcblnpmfaaK11
import Derived.Test.YtdhnegcblnpmfaaK5
namespace Go.Proofs.Ytdhnegcblnpmfaa.StorW
open Go.RowKit Mem Stor
set_option linter.unusedVariables false

/-- a pointer toX9 no store, or toX9 one that no call made -/
def Nobody (w : World) (v : Value) : Prop := v = .pointer none ∨ ∃ g, v = .pointer (some ⟨g, 0, none⟩) ∧ Blk w g 50 #[.slice none 0 0, .bool false, .int .i64 0, .int .i64 0, .int .i64 0]

theorem made_no (v : Value) (w : World) (h : Nobody w v) :
    Calls Try.prog 42 #[v] w fun e w' => e = .returned (.bool false) ∧ w = w' := by
  rcases h with rfl | ⟨g, rfl, h⟩
  · go_enter Try.func42, Try.ntmps42
    go_wp2_with fail
    go_ret
    exact ⟨rfl, rfl⟩
  · have c0 : w.cell? ⟨g, 0, none⟩ = some (.slice none 0 0) := h.cell 0
    go_enter Try.func42, Try.ntmps42
    go_wp2_with fail
    go_ret
    exact ⟨rfl, rfl⟩
theorem reached_no (v : Value) (i : Int) (w : World) (h : Nobody w v) :
    Calls Try.prog 41 #[v, .int .i64 i] w fun e w' => e = .returned (.int .i64 1) ∧ w = w' := by
  have HM := Lib.hid (made_no v w h)
  clear h
  go_enter Try.func41, Try.ntmps41
  go_wp2_with fail
  refine HM.out.mono ?_
  rintro e w1 ⟨rfl, rfl⟩
  go_wp2_with fail
  go_ret
  exact ⟨rfl, rfl⟩
theorem read_no (v : Value) (i : Int) (w : World) (h : Nobody w v) :
    Calls Try.prog 26 #[v, .int .i64 i] w fun e w' => e = .returned (.tuple #[.string ⟨#[]⟩, .int .i64 1]) ∧ w = w' := by
  have HM := Lib.hid (reached_no v i w h)
  clear h
  go_enter Try.func26, Try.ntmps26
  go_wp2_with fail
  refine HM.out.mono ?_
  rintro e w1 ⟨rfl, rfl⟩
  go_wp2_with fail
  go_ret2
  exact ⟨rfl, rfl⟩
theorem write_no (v : Value) (i : Int) (b : ByteArray) (w : World) (h : Nobody w v) :
    Calls Try.prog 14 #[v, .int .i64 i, .string b] w fun e w' => e = .returned (.int .i64 1) ∧ w = w' := by
  have HM := Lib.hid (reached_no v i w h)
  clear h
  go_enter Try.func14, Try.ntmps14
  go_wp2_with fail
  refine HM.out.mono ?_
  rintro e w1 ⟨rfl, rfl⟩
  go_wp2_with fail
  go_ret
  exact ⟨rfl, rfl⟩
theorem arm_no (v : Value) (i k : Int) (w : World) (h : Nobody w v) :
    Calls Try.prog 16 #[v, .int .i64 i, .int .i64 k] w fun e w' => e = .returned (.int .i64 1) ∧ w = w' := by
  have HM := Lib.hid (reached_no v 0 w h)
  clear h
  go_enter Try.func16, Try.ntmps16
  go_wp2_with fail
  refine HM.out.mono ?_
  rintro e w1 ⟨rfl, rfl⟩
  go_wp2_with fail
  go_ret
  exact ⟨rfl, rfl⟩
theorem power_no (v : Value) (on : Bool) (w : World) (h : Nobody w v) :
    Calls Try.prog 44 #[v, .bool on] w fun e w' => e = .returned (.int .i64 1) ∧ w = w' := by
  have HM := Lib.hid (made_no v w h)
  clear h
  go_enter Try.func44, Try.ntmps44
  go_wp2_with fail
  refine HM.out.mono ?_
  rintro e w1 ⟨rfl, rfl⟩
  go_wp2_with fail
  go_ret
  exact ⟨rfl, rfl⟩
theorem boot_no (v : Value) (w : World) (h : Nobody w v) :
    Calls Try.prog 21 #[v] w fun e w' => e = .returned (.int .i64 1) ∧ w = w' := by
  have HM := Lib.hid (power_no v true w h)
  clear h
  go_enter Try.func21, Try.ntmps21
  go_wp2_with fail
  refine HM.out.mono ?_
  rintro e w1 ⟨rfl, rfl⟩
  go_wp2_with fail
  go_ret
  exact ⟨rfl, rfl⟩
theorem off_no (v : Value) (w : World) (h : Nobody w v) :
    Calls Try.prog 27 #[v] w fun e w' => e = .returned (.int .i64 1) ∧ w = w' := by
  have HM := Lib.hid (power_no v false w h)
  clear h
  go_enter Try.func27, Try.ntmps27
  go_wp2_with fail
  refine HM.out.mono ?_
  rintro e w1 ⟨rfl, rfl⟩
  go_wp2_with fail
  go_ret
  exact ⟨rfl, rfl⟩
theorem on_no (v : Value) (w : World) (h : Nobody w v) :
    Calls Try.prog 19 #[v] w fun e w' => e = .returned (.bool false) ∧ w = w' := by
  have HM := Lib.hid (made_no v w h)
  clear h
  go_enter Try.func19, Try.ntmps19
  go_wp2_with fail
  refine HM.out.mono ?_
  rintro e w1 ⟨rfl, rfl⟩
  go_wp2_with fail
  go_ret
  exact ⟨rfl, rfl⟩
theorem size_no (v : Value) (w : World) (h : Nobody w v) :
    Calls Try.prog 24 #[v] w fun e w' => e = .returned (.int .i64 0) ∧ w = w' := by
  have HM := Lib.hid (made_no v w h)
  clear h
  go_enter Try.func24, Try.ntmps24
  go_wp2_with fail
  refine HM.out.mono ?_
  rintro e w1 ⟨rfl, rfl⟩
  go_wp2_with fail
  go_ret
  exact ⟨rfl, rfl⟩
theorem writes_no (v : Value) (w : World) (h : Nobody w v) :
    Calls Try.prog 20 #[v] w fun e w' => e = .returned (.int .i64 0) ∧ w = w' := by
  have HM := Lib.hid (made_no v w h)
  clear h
  go_enter Try.func20, Try.ntmps20
  go_wp2_with fail
  refine HM.out.mono ?_
  rintro e w1 ⟨rfl, rfl⟩
  go_wp2_with fail
  go_ret
  exact ⟨rfl, rfl⟩
theorem image_no (v : Value) (w : World) (h : Nobody w v) :
    Calls Try.prog 17 #[v] w fun e w' => e = .returned (.slice none 0 0) ∧ w = w' := by
  have HM := Lib.hid (made_no v w h)
  clear h
  go_enter Try.func17, Try.ntmps17
  go_wp2_with fail
  refine HM.out.mono ?_
  rintro e w1 ⟨rfl, rfl⟩
  go_wp2_with fail
  go_ret
  exact ⟨rfl, rfl⟩

end Go.Proofs.Ytdhnegcblnpmfaa.StorW

namespace Go.Proofs.Ytdhnegcblnpmfaa.JrnW
open Go.RowKit Mem Jrn PackW FrameW
set_option linter.unusedVariables false
set_option linter.unusedSimpArgs false

def OpenOut (g : Nat) (f : Jrn.Fd) (w : World) (e : Ending) (w' : World) : Prop := ∃ jb A c, e = .returned (.tuple #[.pointer (some ⟨jb, 0, none⟩), .string (str f.image), .slice A f.events.length c, .int .i64 0]) ∧ w.heap.size ≤ jb ∧ Blk w' jb 64 (jC f.area f.life f.count f.next f.stamp g false) ∧ TxW w' w.heap.size A f.events.length c f.events ∧ Below w.heap.size w w'
set_option maxHeartbeats 4000000 in
set_option maxRecDepth 100000 in
theorem open_yes (base g : Nat) (s : Stor.Sto) (w : World) (h : StorW.Is w base g s) (hok : s.Ok) (hon : s.off = false) (h4 : 4 ≤ s.bs.length) (hst : (Jrn.counts s.bs).stands = true) :
    Calls Try.prog 37 #[.pointer (some ⟨g, 0, none⟩)] w (OpenOut g (Jrn.counts s.bs) w) := by
  have HU := Lib.hid (usable_any base g s w h hok hon h4)
  have hf := hok.few
  have HC := Lib.hid fun A c wx ht => counts_any A s.bs.length c s.bs wx ht hok.whole (by omega) (by omega)
  obtain ⟨f, hfe⟩ : ∃ f, f = Jrn.counts s.bs := ⟨_, rfl⟩
  rw [← hfe] at HC hst ⊢
  obtain ⟨fa, fl, fc, fn, fs, fi, fe, fb⟩ := f
  simp only at hst
  subst hst
  clear hfe h hok hon
  go_enter Try.func37, Try.ntmps37
  go_wp2_with fail
  refine HU.out.mono ?_
  rintro e w1 ⟨A1, c1, rfl, hT1, b1⟩
  have HC1 := Lib.hid (HC.out A1 c1 w1 hT1)
  clear hT1
  go_wp2_with fail
  refine HC1.out.mono ?_
  rintro e w2 ⟨A2, c2, rfl, hT2, b2⟩
  have hb2 := below_step b1 b2
  obtain ⟨V, hV⟩ : ∃ V, V = w2.alloc (.cells (fdR fa fl fc fn fs fi A2 fe.length c2 true) 93) := ⟨_, rfl⟩
  have bV : Below w2.heap.size w2 V := by rw [hV]; exact (Below.refl _ _).alloc (Nat.le_refl _) _
  have kV : Blk V w2.heap.size 93 (fdR fa fl fc fn fs fi A2 fe.length c2 true) := by rw [hV]; exact Blk.new _ _ _
  have hbV := below_step hb2 bV
  have hTV := hT2.below bV
  go_upto_region 5 with fail
  have hV' : w2.alloc (.cells #[.int .i64 fa, .int .i64 fl, .int .i64 fc, .int .i64 fn, .int .i64 fs, .string (str fi), .slice A2 fe.length c2, .bool true] 93) = V := hV.symm
  rw [hV']
  obtain ⟨x0, x1, x2, x3, x4, x5, x6, x7⟩ := blk8' kV
  have kB : Blk (V.alloc (.cells (jC fa fl fc fn fs g false) 64)) w2.heap.size 93 (fdR fa fl fc fn fs fi A2 fe.length c2 true) := kV.alloc _
  have y5 : ((V.alloc (.cells (jC fa fl fc fn fs g false) 64)).drew).cell? ⟨w2.heap.size, 5, none⟩ = some (.string (str fi)) := kB.drew.cell 5
  have y6 : ((V.alloc (.cells (jC fa fl fc fn fs g false) 64)).drew).cell? ⟨w2.heap.size, 6, none⟩ = some (.slice A2 fe.length c2) := kB.drew.cell 6
  have y5' : (V.alloc (.cells (jC fa fl fc fn fs g false) 64)).cell? ⟨w2.heap.size, 5, none⟩ = some (.string (str fi)) := kB.cell 5
  have y6' : (V.alloc (.cells (jC fa fl fc fn fs g false) 64)).cell? ⟨w2.heap.size, 6, none⟩ = some (.slice A2 fe.length c2) := kB.cell 6
  clear hV hV' hT2 b2 hb2 bV
  go_wp2_with fail
  go_region
  all_goals go_wp2_with fail
  have bJ : Below V.heap.size V ((V.alloc (.cells (jC fa fl fc fn fs g false) 64)).drew) := ((Below.refl _ _).alloc (Nat.le_refl _) _).drew
  refine bodyPost_ret (v := .tuple #[.pointer (some ⟨V.heap.size, 0, none⟩), .string (str fi), .slice A2 fe.length c2, .int .i64 0]) (by simp [results, Try.results37, go_sem]) rfl ?_
  exact ⟨V.heap.size, A2, c2, rfl, hbV.size, (Blk.new V 64 (jC fa fl fc fn fs g false)).drew, (hTV.below bJ).mono b1.size, below_step hbV bJ⟩
def FormatOut (base g : Nat) (r : Stor.Sto × Int) (cs : Array Value) (w : World) (e : Ending) (w' : World) : Prop := ∃ jb, e = .returned (.tuple #[.pointer (some ⟨jb, 0, none⟩), .int .i64 0]) ∧ w.heap.size ≤ jb ∧ Blk w' jb 64 cs ∧ StorW.Is w' base g r.1 ∧ Below base w w' ∧ KeepJ w w'
set_option maxHeartbeats 4000000 in
set_option maxRecDepth 100000 in
theorem format_new (base g : Nat) (s : Stor.Sto) (st : Int) (body : ByteArray) (w : World) (h : StorW.Is w base g s) (hbw : base ≤ w.heap.size) (hok : s.Ok) (hon : s.off = false) (h4 : 4 ≤ s.bs.length) (hst : (Jrn.counts s.bs).stands = false) (hstp : (Jrn.counts s.bs).stamp = st) (hwr : s.wr < 900000) (hb : body.size ≤ 1000000)
    (hn : need body.data.toList ≤ 255) (hf : fitsE (need body.data.toList) ((s.bs.length / 2 : Nat) : Int) = 0) (hat : parts (Frm.put 1 0 body.data.toList).1 ≤ s.bs.length) (h0 : 1 ≤ st) (h1 : st + 255 < 4294967296)
    (hr0 : (layS s 0 st (Frm.put 1 0 body.data.toList).1 (parts (Frm.put 1 0 body.data.toList).1)).2 = 0) :
    Calls Try.prog 36 #[.pointer (some ⟨g, 0, none⟩), .string body] w (FormatOut base g (layS s 0 st (Frm.put 1 0 body.data.toList).1 (parts (Frm.put 1 0 body.data.toList).1))
      (jC 0 1 0 ((parts (Frm.put 1 0 body.data.toList).1 : Nat) : Int) (st + parts (Frm.put 1 0 body.data.toList).1) g false) w) := by
  have HU := Lib.hid (usable_any base g s w h hok hon h4)
  have hbs := hok.few
  have hdiv : Int.tdiv (s.bs.length : Int) 2 = ((s.bs.length / 2 : Nat) : Int) := rfl
  have HF := Lib.hid fun wx => fits_any body ((s.bs.length / 2 : Nat) : Int) wx (by omega)
  rw [hf] at HF
  have HC := Lib.hid fun A c wx ht => counts_any A s.bs.length c s.bs wx ht hok.whole (by omega) (by omega)
  obtain ⟨f, hfe⟩ : ∃ f, f = Jrn.counts s.bs := ⟨_, rfl⟩
  rw [← hfe] at HC hst hstp
  obtain ⟨fa, fl, fc, fn, fs, fi, fe, fb⟩ := f
  simp only at hst hstp
  subst hst hstp
  have HBg := Lib.hid fun wx jb hB hjb hS => begin_any jb base g 0 s fs fa fl fc fn 1 body wx hB hjb hS hok hwr (by omega) (by omega) (by omega) hn (by simpa using hat) h0 h1
  simp only [Nat.zero_mul, Nat.zero_add] at HBg
  obtain ⟨np, hnp⟩ : ∃ np, np = parts (Frm.put 1 0 body.data.toList).1 := ⟨_, rfl⟩
  rw [← hnp] at HBg hat hr0 ⊢
  obtain ⟨r, hr⟩ : ∃ r, r = layS s 0 fs (Frm.put 1 0 body.data.toList).1 np := ⟨_, rfl⟩
  rw [← hr] at HBg hr0 ⊢
  have HIs := Lib.hid h
  have hlim : s.bs.length ≤ 400 := hbs
  clear hfe h hok hon hr hnp hat hn hf
  go_enter Try.func36, Try.ntmps36
  go_wp2_with fail
  refine HU.out.mono ?_
  rintro e w1 ⟨A1, c1, rfl, hT1, b1⟩
  have HC1 := Lib.hid fun m => HC.out A1 c1 (w1.drewN m) (hT1.below (below_drewN (Below.refl _ _) m))
  clear hT1
  go_wp2_with fail
  refine (HF.out _).mono ?_
  rintro e w2 ⟨rfl, hw⟩
  subst hw
  go_wp2_with fail
  refine (HC1.out 0).mono ?_
  rintro e w2 ⟨A2, c2, rfl, hT2, b2⟩
  have hb2 : Below w.heap.size w w2 := below_step b1 b2
  obtain ⟨V, hV⟩ : ∃ V, V = w2.alloc (.cells (fdR fa fl fc fn fs fi A2 fe.length c2 false) 93) := ⟨_, rfl⟩
  have bV : Below w2.heap.size w2 V := by rw [hV]; exact (Below.refl _ _).alloc (Nat.le_refl _) _
  have kV : Blk V w2.heap.size 93 (fdR fa fl fc fn fs fi A2 fe.length c2 false) := by rw [hV]; exact Blk.new _ _ _
  have hbV := below_step hb2 bV
  go_upto_region 8 with fail
  have hV' : w2.alloc (.cells #[.int .i64 fa, .int .i64 fl, .int .i64 fc, .int .i64 fn, .int .i64 fs, .string (str fi), .slice A2 fe.length c2, .bool false] 93) = V := hV.symm
  rw [hV']
  obtain ⟨x0, x1, x2, x3, x4, x5, x6, x7⟩ := blk8' kV
  have kB : Blk (V.alloc (.cells (jC fa fl fc fn fs g false) 64)) w2.heap.size 93 (fdR fa fl fc fn fs fi A2 fe.length c2 false) := kV.alloc _
  have kJ := Blk.new V 64 (jC fa fl fc fn fs g false)
  have y7 : (V.alloc (.cells (jC fa fl fc fn fs g false) 64)).cell? ⟨w2.heap.size, 7, none⟩ = some (.bool false) := kB.cell 7
  have bJ : Below V.heap.size V (V.alloc (.cells (jC fa fl fc fn fs g false) 64)) := (Below.refl _ _).alloc (Nat.le_refl _) _
  have hbJ := below_step hbV bJ
  have HB1 := Lib.hid (HBg.out _ V.heap.size kJ (Nat.le_trans hbw hbV.size) (HIs.out.below hbJ))
  have hKJ := keepJ_below hbJ
  have HBl := Lib.hid (hbJ.mono hbw)
  have HKp := Lib.hid hKJ
  have hVs := hbV.size
  clear hV hV' hT2 b2 hb2 bV HBg hbJ hKJ kJ
  go_wp2_with fail
  refine HB1.out.mono ?_
  rintro e w3 ⟨rfl, hblk, his, hbel, hkeep⟩
  have HBk := Lib.hid (hblk hr0)
  have HI3 := Lib.hid his
  have HB3 := Lib.hid hbel
  have HK3 := Lib.hid hkeep
  have e5 : (r.2 != 0) = false := by rw [hr0]; rfl
  rw [hr0]
  clear hblk his hbel hkeep
  go_wp2_with fail
  go_ret2
  exact ⟨V.heap.size, rfl, hVs, HBk.out, HI3.out, HBl.out.trans HB3.out, HKp.out.trans HK3.out⟩
theorem usable_no (v : Value) (w : World) (h : StorW.Nobody w v) : Calls Try.prog 53 #[v] w fun e w' => e = .returned (.tuple #[.slice none 0 0, .int .i64 1]) ∧ w = w' := by
  have HR := Lib.hid (StorW.read_no v 0 w h)
  go_enter Try.func53, Try.ntmps53
  go_wp2_with fail
  refine HR.out.mono ?_
  rintro e w1 ⟨rfl, hw⟩
  subst hw
  go_wp2_with fail
  go_ret2
  exact ⟨rfl, rfl⟩
theorem format_no (v : Value) (s : ByteArray) (w : World) (h : StorW.Nobody w v) : Calls Try.prog 36 #[v, .string s] w fun e w' => e = .returned (.tuple #[.pointer none, .int .i64 1]) ∧ w = w' := by
  have HR := Lib.hid (usable_no v w h)
  go_enter Try.func36, Try.ntmps36
  go_wp2_with fail
  refine HR.out.mono ?_
  rintro e w1 ⟨rfl, hw⟩
  subst hw
  go_wp2_with fail
  go_ret2
  exact ⟨rfl, rfl⟩
theorem open_no (v : Value) (w : World) (h : StorW.Nobody w v) : Calls Try.prog 37 #[v] w fun e w' => e = .returned (.tuple #[.pointer none, .string ⟨#[]⟩, .slice none 0 0, .int .i64 1]) ∧ w = w' := by
  have HR := Lib.hid (usable_no v w h)
  go_enter Try.func37, Try.ntmps37
  go_wp2_with fail
  refine HR.out.mono ?_
  rintro e w1 ⟨rfl, hw⟩
  subst hw
  go_wp2_with fail
  exact bodyPost_ret (v := .tuple #[.pointer none, .string ⟨#[]⟩, .slice none 0 0, .int .i64 1]) (by simp [results, Try.results37, go_sem]) rfl ⟨rfl, rfl⟩
end Go.Proofs.Ytdhnegcblnpmfaa.JrnW

namespace Go.Proofs.Ytdhnegcblnpmfaa.Jrn
open Pack Frm Stor
set_option linter.unusedVariables false
set_option linter.unusedSimpArgs false

/-- a store with a journal on it -/
structure Sound (s : Sto) (H area next : Nat) (life st : Int) (im : List UInt8) (ev : List (List UInt8)) : Prop where
  ok : s.Ok
  on : s.off = false
  inv : Inv s.bs H area life next im ev
  fresh : Fresh s.bs st
  st1 : 1 ≤ st
/-- no block was torn -/
structure Good (s : Sto) (H area next : Nat) (life st : Int) (im : List UInt8) (ev : List (List UInt8)) : Prop where
  sound : Sound s H area next life st im ev
  clean : Clean s.bs
  small : ∀ b ∈ s.bs, Small b
theorem layS_unarmed {s : Sto} {a : Nat} {st : Int} {fr : List UInt8} (hok : s.Ok) (hoff : s.off = false) (hl : s.left = 0) : ∀ i, a + i ≤ s.bs.length → (layS s a st fr i).2 = 0 ∧ (layS s a st fr i).1.left = 0 ∧ (layS s a st fr i).1.off = false := by
  intro i
  induction i with
  | zero => intro _; exact ⟨rfl, hl, hoff⟩
  | succ i ih =>
    intro hin
    obtain ⟨h1, h2, h3⟩ := ih (by omega)
    rw [layS_next h1]
    have hlen := layS_len s a st fr i
    obtain ⟨t, ht⟩ : ∃ t, t = (layS s a st fr i).1 := ⟨_, rfl⟩
    rw [← ht] at h2 h3 hlen ⊢
    have hr : reach t ((a + i : Nat) : Int) = 0 := by
      unfold reach
      rw [if_neg (by simp [h3]), if_neg (by omega)]
    have hwl : (writeB (pb st fr i)).length = 256 := writeB_len (by simp [pb]; omega)
    unfold write
    rw [if_neg (by rw [hr]; simp), if_neg (by simp [hwl]), if_neg (by omega)]
    refine ⟨rfl, ?_, h3⟩
    simp only
    omega
/-- unarmed, all parts are laid -/
theorem lay_whole {s : Sto} {a : Nat} {st : Int} {fr : List UInt8} (hok : s.Ok) (hoff : s.off = false) (hl : s.left = 0) (hin : a + parts fr ≤ s.bs.length) (hk : parts fr ≤ 255) (hf : Fresh s.bs st) (h0 : 1 ≤ st) (h1 : st + 255 < 4294967296) :
    (layS s a st fr (parts fr)).2 = 0 ∧ (layS s a st fr (parts fr)).1.off = false ∧ (layS s a st fr (parts fr)).1.left = 0 ∧ Part s.bs (layS s a st fr (parts fr)).1.bs a st fr (parts fr) ∧ Fresh (layS s a st fr (parts fr)).1.bs (st + parts fr) := by
  obtain ⟨k1, k2, k3⟩ := layS_unarmed (st := st) (fr := fr) hok hoff hl (parts fr) hin
  have hlen := layS_len s a st fr (parts fr)
  rcases layS_runs (st := st) (fr := fr) hok hoff (parts fr) hin with ⟨r1, r2, r3, r4⟩ | ⟨r1, _⟩
  · refine ⟨k1, k3, k2, ⟨Nat.le_refl _, hlen, r3, fun p hp => .inl (r4 p hp)⟩, fun p hp => ?_⟩
    by_cases c : p < a ∨ a + parts fr ≤ p
    · rw [r4 p c]
      have := hf p (by omega)
      omega
    · have h := r3 (p - a) (by omega)
      rw [show a + (p - a) = p by omega] at h
      rw [h]
      obtain ⟨e1, e2⟩ := writeB_ends (pb_fine (st := st) (fr := fr) (i := p - a) (by omega) h1 (by omega))
      rw [e1, e2]
      have : (pb st fr (p - a)).stamp = st + ((p - a : Nat) : Int) := rfl
      omega
  · omega
theorem fits_of {body : List UInt8} {b : Int} (h1 : need body ≤ 255) (h2 : need body ≤ b) {life seq : Int} (l0 : 0 ≤ life) (l1 : life < 4294967296) (s0 : 0 ≤ seq) (s1 : seq < 4294967296) :
    Framed (put life seq body).1 life seq body ∧ ((parts (put life seq body).1 : Nat) : Int) ≤ b ∧ parts (put life seq body).1 ≤ 255 := by
  obtain ⟨h3, h4, _⟩ := put_framed l0 l1 s0 s1 h1
  exact ⟨h3, by omega, h3.few⟩
/-- behind the crash the power is on again -/
def again (s : Sto) : Sto := power (power s false) true
theorem again_bs (s : Sto) : (again s).bs = s.bs := rfl
theorem again_ok {s : Sto} (h : s.Ok) : (again s).Ok := power_ok (power_ok h _) _
theorem Sound.again {s : Sto} {H area next : Nat} {life st : Int} {im : List UInt8} {ev : List (List UInt8)} (h : Sound s H area next life st im ev) : Sound (again s) H area next life (stamped s.bs) im ev :=
  ⟨again_ok h.ok, rfl, h.inv, (stamped_fresh h.ok.whole).1, (stamped_fresh h.ok.whole).2⟩
/-- an event is laid on a good store: it stands, or a crash leaves it whole, or not -/
theorem Good.append {s : Sto} {H area next : Nat} {life st : Int} {im body : List UInt8} {ev : List (List UInt8)} (h : Good s H area next life st im ev) (hst : st + 255 ≤ 65536) (hl : life < 4294967296) (he : ev.length < 4294967295) (h1 : need body ≤ 255) (h2 : need body ≤ (((area + 1) * H : Nat) : Int) - next) :
    ((layS s next st (put life ((ev.length + 1 : Nat) : Int) body).1 (parts (put life ((ev.length + 1 : Nat) : Int) body).1)).2 = 0 ∧ Good (layS s next st (put life ((ev.length + 1 : Nat) : Int) body).1 (parts (put life ((ev.length + 1 : Nat) : Int) body).1)).1 H area (next + parts (put life ((ev.length + 1 : Nat) : Int) body).1) life (st + parts (put life ((ev.length + 1 : Nat) : Int) body).1) im (ev ++ [body])) ∨
    ((layS s next st (put life ((ev.length + 1 : Nat) : Int) body).1 (parts (put life ((ev.length + 1 : Nat) : Int) body).1)).2 = 330 ∧ ∃ next' ev', Sound (again (layS s next st (put life ((ev.length + 1 : Nat) : Int) body).1 (parts (put life ((ev.length + 1 : Nat) : Int) body).1)).1) H area next' life (stamped (layS s next st (put life ((ev.length + 1 : Nat) : Int) body).1 (parts (put life ((ev.length + 1 : Nat) : Int) body).1)).1.bs) im ev' ∧ (ev' = ev ∨ ev' = ev ++ [body]) ∧ stamped (layS s next st (put life ((ev.length + 1 : Nat) : Int) body).1 (parts (put life ((ev.length + 1 : Nat) : Int) body).1)).1.bs ≤ 65536) := by
  have hi := h.sound.inv
  have hlf := hi.life1
  obtain ⟨hfr, hpb, hp255⟩ := fits_of h1 h2 (life := life) (seq := ((ev.length + 1 : Nat) : Int)) (by omega) hl (by omega) (by omega)
  obtain ⟨fr, hfre⟩ : ∃ fr, fr = (put life ((ev.length + 1 : Nat) : Int) body).1 := ⟨_, rfl⟩
  rw [← hfre] at hfr hpb hp255 ⊢
  have hE := hi.even
  have har := hi.ar
  have h2H : (area + 1) * H ≤ 2 * H := Nat.mul_le_mul_right _ (by omega)
  have hin : next + parts fr ≤ (area + 1) * H := by omega
  have st1 := h.sound.st1
  obtain ⟨hsm, hcase⟩ := lay_part (a := next) (fr := fr) h.sound.ok h.sound.on (by omega) hp255 h.clean h.sound.fresh h.small st1 hst
  have hok := layS_ok next st fr h.sound.ok (parts fr)
  rcases hcase with ⟨r1, r2, r3, r4, r5⟩ | ⟨r1, m, hp⟩
  · left
    obtain ⟨ha, _⟩ := hi.append h.sound.fresh st1 (by omega) hfr hin r3
    exact ⟨r1, ⟨⟨hok, r2, ha rfl, r5, by omega⟩, r4, hsm⟩⟩
  · right
    obtain ⟨ha, hb⟩ := hi.append h.sound.fresh st1 (by omega) hfr hin hp
    refine ⟨r1, ?_⟩
    by_cases c : m = parts fr
    · exact ⟨_, _, ⟨again_ok hok, rfl, ha c, (stamped_fresh hok.whole).1, (stamped_fresh hok.whole).2⟩, .inr rfl, stamped_small hok.whole hsm⟩
    · exact ⟨_, _, ⟨again_ok hok, rfl, hb c, (stamped_fresh hok.whole).1, (stamped_fresh hok.whole).2⟩, .inl rfl, stamped_small hok.whole hsm⟩
/-- the journal is turned on a good store -/
theorem Good.turn {s : Sto} {H area next : Nat} {life st : Int} {im body : List UInt8} {ev : List (List UInt8)} (h : Good s H area next life st im ev) (hst : st + 255 ≤ 65536) (hl : life + 1 < 4294967296) (h1 : need body ≤ 255) (h2 : need body ≤ H) :
    ((layS s ((1 - area) * H) st (put (life + 1) 0 body).1 (parts (put (life + 1) 0 body).1)).2 = 0 ∧ Good (layS s ((1 - area) * H) st (put (life + 1) 0 body).1 (parts (put (life + 1) 0 body).1)).1 H (1 - area) ((1 - area) * H + parts (put (life + 1) 0 body).1) (life + 1) (st + parts (put (life + 1) 0 body).1) body []) ∨
    ((layS s ((1 - area) * H) st (put (life + 1) 0 body).1 (parts (put (life + 1) 0 body).1)).2 = 330 ∧ ∃ area' next' life' im' ev', Sound (again (layS s ((1 - area) * H) st (put (life + 1) 0 body).1 (parts (put (life + 1) 0 body).1)).1) H area' next' life' (stamped (layS s ((1 - area) * H) st (put (life + 1) 0 body).1 (parts (put (life + 1) 0 body).1)).1.bs) im' ev' ∧ life' ≤ life + 1 ∧ ((im' = im ∧ ev' = ev) ∨ (im' = body ∧ ev' = [])) ∧ stamped (layS s ((1 - area) * H) st (put (life + 1) 0 body).1 (parts (put (life + 1) 0 body).1)).1.bs ≤ 65536) := by
  have hi := h.sound.inv
  have hlf := hi.life1
  obtain ⟨hfr, hpb, hp255⟩ := fits_of h1 h2 (life := life + 1) (seq := 0) (by omega) hl (by omega) (by omega)
  obtain ⟨fr, hfre⟩ : ∃ fr, fr = (put (life + 1) 0 body).1 := ⟨_, rfl⟩
  rw [← hfre] at hfr hpb hp255 ⊢
  have hE := hi.even
  have har := hi.ar
  have h2H : (1 - area) * H ≤ 1 * H := Nat.mul_le_mul_right _ (by omega)
  have st1 := h.sound.st1
  obtain ⟨hsm, hcase⟩ := lay_part (a := (1 - area) * H) (fr := fr) h.sound.ok h.sound.on (by omega) hp255 h.clean h.sound.fresh h.small st1 hst
  have hok := layS_ok ((1 - area) * H) st fr h.sound.ok (parts fr)
  rcases hcase with ⟨r1, r2, r3, r4, r5⟩ | ⟨r1, m, hp⟩
  · left
    obtain ⟨ha, _⟩ := hi.turn h.sound.fresh st1 (by omega) hfr (by omega) r3
    exact ⟨r1, ⟨⟨hok, r2, ha rfl, r5, by omega⟩, r4, hsm⟩⟩
  · right
    obtain ⟨ha, hb⟩ := hi.turn h.sound.fresh st1 (by omega) hfr (by omega) hp
    refine ⟨r1, ?_⟩
    by_cases c : m = parts fr
    · exact ⟨_, _, _, _, _, ⟨again_ok hok, rfl, ha c, (stamped_fresh hok.whole).1, (stamped_fresh hok.whole).2⟩, by omega, .inr ⟨rfl, rfl⟩, stamped_small hok.whole hsm⟩
    · exact ⟨_, _, _, _, _, ⟨again_ok hok, rfl, hb c, (stamped_fresh hok.whole).1, (stamped_fresh hok.whole).2⟩, by omega, .inl ⟨rfl, rfl⟩, stamped_small hok.whole hsm⟩
/-- an event is laid where nothing is armed -/
theorem Sound.append {s : Sto} {H area next : Nat} {life st : Int} {im body : List UInt8} {ev : List (List UInt8)} (h : Sound s H area next life st im ev) (hleft : s.left = 0) (hst : st + 255 < 4294967296) (hl : life < 4294967296) (he : ev.length < 4294967295) (h1 : need body ≤ 255) (h2 : need body ≤ (((area + 1) * H : Nat) : Int) - next) :
    (layS s next st (put life ((ev.length + 1 : Nat) : Int) body).1 (parts (put life ((ev.length + 1 : Nat) : Int) body).1)).2 = 0 ∧ (layS s next st (put life ((ev.length + 1 : Nat) : Int) body).1 (parts (put life ((ev.length + 1 : Nat) : Int) body).1)).1.left = 0 ∧ Sound (layS s next st (put life ((ev.length + 1 : Nat) : Int) body).1 (parts (put life ((ev.length + 1 : Nat) : Int) body).1)).1 H area (next + parts (put life ((ev.length + 1 : Nat) : Int) body).1) life (st + parts (put life ((ev.length + 1 : Nat) : Int) body).1) im (ev ++ [body]) ∧ next + parts (put life ((ev.length + 1 : Nat) : Int) body).1 ≤ s.bs.length := by
  have hi := h.inv
  have hlf := hi.life1
  obtain ⟨hfr, hpb, hp255⟩ := fits_of h1 h2 (life := life) (seq := ((ev.length + 1 : Nat) : Int)) (by omega) hl (by omega) (by omega)
  obtain ⟨fr, hfre⟩ : ∃ fr, fr = (put life ((ev.length + 1 : Nat) : Int) body).1 := ⟨_, rfl⟩
  rw [← hfre] at hfr hpb hp255 ⊢
  have hE := hi.even
  have har := hi.ar
  have h2H : (area + 1) * H ≤ 2 * H := Nat.mul_le_mul_right _ (by omega)
  have hin : next + parts fr ≤ (area + 1) * H := by omega
  have st1 := h.st1
  obtain ⟨r1, r2, r3, r4, r5⟩ := lay_whole (a := next) (fr := fr) h.ok h.on hleft (by omega) hp255 h.fresh st1 (by omega)
  obtain ⟨ha, _⟩ := hi.append h.fresh st1 (by omega) hfr hin r4
  exact ⟨r1, r3, ⟨layS_ok next st fr h.ok _, r2, ha rfl, r5, by omega⟩, by omega⟩
/-- the journal is turned where nothing is armed -/
theorem Sound.turn {s : Sto} {H area next : Nat} {life st : Int} {im body : List UInt8} {ev : List (List UInt8)} (h : Sound s H area next life st im ev) (hleft : s.left = 0) (hst : st + 255 < 4294967296) (hl : life + 1 < 4294967296) (h1 : need body ≤ 255) (h2 : need body ≤ H) :
    (layS s ((1 - area) * H) st (put (life + 1) 0 body).1 (parts (put (life + 1) 0 body).1)).2 = 0 ∧ Sound (layS s ((1 - area) * H) st (put (life + 1) 0 body).1 (parts (put (life + 1) 0 body).1)).1 H (1 - area) ((1 - area) * H + parts (put (life + 1) 0 body).1) (life + 1) (st + parts (put (life + 1) 0 body).1) body [] ∧ (1 - area) * H + parts (put (life + 1) 0 body).1 ≤ s.bs.length := by
  have hi := h.inv
  have hlf := hi.life1
  obtain ⟨hfr, hpb, hp255⟩ := fits_of h1 h2 (life := life + 1) (seq := 0) (by omega) hl (by omega) (by omega)
  obtain ⟨fr, hfre⟩ : ∃ fr, fr = (put (life + 1) 0 body).1 := ⟨_, rfl⟩
  rw [← hfre] at hfr hpb hp255 ⊢
  have hE := hi.even
  have har := hi.ar
  have h2H : (1 - area) * H ≤ 1 * H := Nat.mul_le_mul_right _ (by omega)
  have st1 := h.st1
  obtain ⟨r1, r2, r3, r4, r5⟩ := lay_whole (a := (1 - area) * H) (fr := fr) h.ok h.on hleft (by omega) hp255 h.fresh st1 (by omega)
  obtain ⟨ha, _⟩ := hi.turn h.fresh st1 (by omega) hfr (by omega) r4
  exact ⟨r1, ⟨layS_ok _ st fr h.ok _, r2, ha rfl, r5, by omega⟩, by omega⟩
theorem blk_new (n p : Nat) : blk (new n).bs p = zeros ∨ blk (new n).bs p = [] := by
  unfold blk new
  rw [List.getD_eq_getElem?_getD]
  by_cases h : p < n
  · left; simp [List.getElem?_replicate, h]
  · right; simp [List.getElem?_replicate, h]
theorem zeros_num : numAt zeros 0 4 = 0 ∧ numAt zeros 252 4 = 0 := by
  refine ⟨?_, ?_⟩
  · rw [numAt_start zeros_length]
    have : num (start4 zeros) = 0 := rfl
    rw [this]
    rfl
  · rw [numAt_end zeros_length]
    have : num (end4 zeros) = 0 := rfl
    rw [this]
    rfl
theorem zeros_small : Small zeros := ⟨rfl, rfl, rfl, rfl⟩
theorem new_none (n p : Nat) : readB (blk (new n).bs p) = none := by
  rcases blk_new n p with h | h
  · rw [h]
    refine readB_no ?_
    unfold readOk
    rw [zeros_num.1]
    rfl
  · rw [h]; exact readB_len (by simp)
theorem new_mem {n : Nat} {b : List UInt8} (h : b ∈ (new n).bs) : b = zeros := by
  unfold new at h
  exact List.eq_of_mem_replicate h
theorem new_blk {n p : Nat} (h : p < (new n).bs.length) : blk (new n).bs p = zeros := new_mem (blk_mem h)
theorem new_stamped (n : Nat) : stamped (new n).bs = 1 := by
  have h1 := foldl_ge (new n).bs 0
  have h2 := foldl_le (new n).bs 0 (fun s hs => by
    rw [new_mem hs, zeros_length]
    have := zeros_num
    exact ⟨by omega, by have e : numAt zeros 252 4 = numAt zeros (((256 : Nat) : Int) - 4) 4 := rfl
                        omega⟩) 0 (by omega)
  unfold stamped
  omega
theorem look_new (n area : Nat) : look (new n).bs area = ⟨area, 0, 0, 0, 0, [], [], false⟩ := by
  have hr : recs (new n).bs area = [] := by
    unfold recs
    rw [recsF, take_none (new_none n _)]
  unfold look
  rw [hr]
theorem counts_new (n : Nat) : counts (new n).bs = ⟨1, 0, 0, 0, 1, [], [], false⟩ := by
  unfold counts
  simp only [look_new, new_stamped]
  simp
/-- a journal is begun on a new store -/
theorem good_first {n H : Nat} {body : List UInt8} (hn : n = 2 * H) (h1n : 1 ≤ n) (h4 : n ≤ 400) (h1 : need body ≤ 255) (h2 : need body ≤ H) :
    (layS (new n) 0 1 (put 1 0 body).1 (parts (put 1 0 body).1)).2 = 0 ∧ (layS (new n) 0 1 (put 1 0 body).1 (parts (put 1 0 body).1)).1.left = 0 ∧ Good (layS (new n) 0 1 (put 1 0 body).1 (parts (put 1 0 body).1)).1 H 0 (parts (put 1 0 body).1) 1 (1 + parts (put 1 0 body).1) body [] ∧ parts (put 1 0 body).1 ≤ H ∧ (layS (new n) 0 1 (put 1 0 body).1 (parts (put 1 0 body).1)).1.wr ≤ H := by
  obtain ⟨hfr, hpb, hp255⟩ := fits_of h1 h2 (life := 1) (seq := 0) (by omega) (by omega) (by omega) (by omega)
  obtain ⟨fr, hfre⟩ : ∃ fr, fr = (put 1 0 body).1 := ⟨_, rfl⟩
  rw [← hfre] at hfr hpb hp255 ⊢
  have hlen : (new n).bs.length = n := by simp [new]
  have hok := new_ok n h1n h4
  have hfresh : Fresh (new n).bs 1 := fun p hp => by rw [new_blk hp]; have := zeros_num; omega
  have hclean : Clean (new n).bs := fun p hp => by rw [new_blk hp]; have := zeros_num; omega
  obtain ⟨u1, u2, u3⟩ := layS_unarmed (a := 0) (st := 1) (fr := fr) hok rfl rfl (parts fr) (by omega)
  obtain ⟨hsm, hcase⟩ := lay_part (a := 0) (st := 1) (fr := fr) hok rfl (by omega) hp255 hclean hfresh (fun b hb => by rw [new_mem hb]; exact zeros_small) (by omega) (by omega)
  have hwr := layS_wr (new n) 0 1 fr (parts fr)
  have hw0 : (new n).wr = 0 := rfl
  rcases hcase with ⟨r1, r2, r3, r4, r5⟩ | ⟨r1, _⟩
  · refine ⟨r1, u2, ⟨⟨layS_ok 0 1 fr hok _, r2, ?_, r5, by omega⟩, r4, hsm⟩, by omega, by omega⟩
    exact Inv.first (by omega) (new_none n) hfresh (by omega) (by omega) (by omega) hfr (by omega) r3
  · omega
end Go.Proofs.Ytdhnegcblnpmfaa.Jrn

namespace Go.Proofs.Ytdhnegcblnpmfaa.JrnW
open Go.RowKit Mem Jrn PackW FrameW
set_option linter.unusedVariables false
set_option linter.unusedSimpArgs false

theorem stamped_le {bs : List (List UInt8)} {st : Int} (hw : ∀ b ∈ bs, b.length = 256) (hf : Fresh bs st) (h1 : 1 ≤ st) : Jrn.stamped bs ≤ st := by
  unfold Jrn.stamped
  have := foldl_le bs (st - 1) (fun s hs => by
    obtain ⟨p, hp, rfl⟩ := mem_blk hs
    have h := hf p hp
    rw [hw _ hs]
    refine ⟨by omega, ?_⟩
    have e : numAt (blk bs p) 252 4 = numAt (blk bs p) (((256 : Nat) : Int) - 4) 4 := rfl
    omega) 0 (by omega)
  omega
theorem TxW.keepJ {w w' : World} {base : Nat} {A : Option Addr} {n c : Nat} {l : List (List UInt8)} (h : TxW w base A n c l) (hk : KeepJ w w') : TxW w' base A n c l := h.same fun g e hb => by
  rcases h.shape with ⟨e', _⟩ | ⟨g', cur, e', _, hh, _⟩
  · rw [e] at e'; cases e'
  · rw [e] at e'
    injection e' with e'
    injection e' with e'
    subst e'
    exact (hk _ _ _ _ (by decide) (by decide) (by decide) hh).trans hh.symm
def aIm : List UInt8 := [105, 109, 97, 103, 101]
def aA : List UInt8 := [97]
def aNw : List UInt8 := [110, 101, 119]
def aF1 : List UInt8 := (Frm.put 1 0 aIm).1
def aR1 : Stor.Sto × Int := layS (Stor.new 8) 0 1 aF1 (parts aF1)
def aF2 : List UInt8 := (Frm.put 1 ((0 + 1 : Nat) : Int) aA).1
def aR2 : Stor.Sto × Int := layS aR1.1 (parts aF1) (1 + parts aF1) aF2 (parts aF2)
def aF3 : List UInt8 := (Frm.put (1 + 1) 0 aNw).1
def aR3 : Stor.Sto × Int := layS aR2.1 ((1 - 0) * (aR2.1.bs.length / 2)) (Jrn.stamped aR2.1.bs) aF3 (parts aF3)
structure AwakeF : Prop where
  n1 : parts aF1 = 1
  n2 : parts aF2 = 1
  n3 : parts aF3 = 1
  e1 : aR1.2 = 0
  e2 : aR2.2 = 0
  e3 : aR3.2 = 0
  ok1 : aR1.1.Ok
  ok2 : aR2.1.Ok
  on2 : aR2.1.off = false
  l1 : aR1.1.bs.length = 8
  l2 : aR2.1.bs.length = 8
  l3 : aR3.1.bs.length = 8
  ok3 : aR3.1.Ok
  w1 : aR1.1.wr ≤ 4
  w2 : aR2.1.wr ≤ 5
  s1 : 1 ≤ Jrn.stamped aR2.1.bs
  s2 : Jrn.stamped aR2.1.bs ≤ 3
  ct : Jrn.counts aR2.1.bs = ⟨((0 : Nat) : Int), 1, ((1 : Nat) : Int), ((2 : Nat) : Int), Jrn.stamped aR2.1.bs, aIm, [aA], true⟩
theorem awakeF : AwakeF := by
  have hn1 : need aIm = 1 := rfl
  have hn2 : need aA = 1 := rfl
  have hn3 : need aNw = 1 := rfl
  have p1 : parts aF1 = 1 := by
    have := (put_framed (life := 1) (seq := 0) (body := aIm) (by omega) (by omega) (by omega) (by omega) (by omega)).2.1
    unfold aF1
    omega
  have p2 : parts aF2 = 1 := by
    have := (put_framed (life := 1) (seq := ((0 + 1 : Nat) : Int)) (body := aA) (by omega) (by omega) (by omega) (by omega) (by omega)).2.1
    unfold aF2
    omega
  have p3 : parts aF3 = 1 := by
    have := (put_framed (life := 1 + 1) (seq := 0) (body := aNw) (by omega) (by omega) (by omega) (by omega) (by omega)).2.1
    unfold aF3
    omega
  obtain ⟨f1, f2, f3, f4, f5⟩ := good_first (n := 8) (H := 4) (body := aIm) rfl (by omega) (by omega) (by omega) (by omega)
  have f1 : aR1.2 = 0 := by unfold aR1 aF1; exact f1
  have f2 : aR1.1.left = 0 := by unfold aR1 aF1; exact f2
  have f3 : Jrn.Good aR1.1 4 0 (parts aF1) 1 (1 + parts aF1) aIm [] := by unfold aR1 aF1; exact f3
  have f5 : aR1.1.wr ≤ 4 := by unfold aR1 aF1; exact f5
  have q1 : (1 : Int) + parts aF1 + 255 < 4294967296 := by omega
  have q2 : (1 : Int) < 4294967296 := by omega
  have q3 : ([] : List (List UInt8)).length < 4294967295 := by rw [List.length_nil]; omega
  have q4 : need aA ≤ 255 := by omega
  have q5 : need aA ≤ (((0 + 1) * 4 : Nat) : Int) - (parts aF1 : Nat) := by omega
  obtain ⟨g1, g2, g3, g4⟩ := f3.sound.append (body := aA) f2 q1 q2 q3 q4 q5
  rw [List.length_nil] at g1 g2 g3
  have g1 : aR2.2 = 0 := by unfold aR2 aF2; exact g1
  have g2 : aR2.1.left = 0 := by unfold aR2 aF2; exact g2
  have g3 : Jrn.Sound aR2.1 4 0 (parts aF1 + parts aF2) 1 (1 + parts aF1 + parts aF2) aIm ([] ++ [aA]) := by unfold aR2 aF2; exact g3
  have hE := g3.inv.even
  have hst := stamped_fresh g3.ok.whole
  have hsl := stamped_le g3.ok.whole g3.fresh g3.st1
  have g3' : Jrn.Sound aR2.1 4 0 (parts aF1 + parts aF2) 1 (Jrn.stamped aR2.1.bs) aIm ([] ++ [aA]) := ⟨g3.ok, g3.on, g3.inv, hst.1, hst.2⟩
  obtain ⟨k1, k2, k3⟩ := g3'.turn (body := aNw) g2 (by omega) (by omega) (by omega) (by omega)
  have hh : aR2.1.bs.length / 2 = 4 := by omega
  have k1' : aR3.2 = 0 := by unfold aR3 aF3; rw [hh]; exact k1
  have k2' : aR3.1.Ok := by unfold aR3 aF3; rw [hh]; exact k2.ok
  have hlen1 : aR1.1.bs.length = 8 := f3.sound.inv.even
  have hw2 := layS_wr aR1.1 (parts aF1) (1 + parts aF1) aF2 (parts aF2)
  have hw2' : aR2.1.wr ≤ aR1.1.wr + parts aF2 := by unfold aR2; exact hw2.2
  have hl3 : aR3.1.bs.length = 8 := by
    have := layS_len aR2.1 ((1 - 0) * (aR2.1.bs.length / 2)) (Jrn.stamped aR2.1.bs) aF3 (parts aF3)
    have : aR3.1.bs.length = aR2.1.bs.length := by unfold aR3; exact this
    omega
  refine ⟨p1, p2, p3, f1, g1, k1', f3.sound.ok, g3.ok, g3.on, hlen1, by omega, hl3, k2', f5, by omega, hst.2, by omega, ?_⟩
  rw [g3.inv.counts, p1, p2]
  rfl
theorem str_eq_lit (l : List UInt8) (s : ByteArray) (h : s = ⟨l.toArray⟩) : str l = s := h.symm
set_option maxHeartbeats 8000000 in
set_option maxRecDepth 100000 in
theorem awake34_any (w : World) : Calls Try.prog 38 #[] w fun e w' => e = .returned (.bool true) ∧ Below w.heap.size w w' := by
  have HA := awakeF
  have HNew := Lib.hid (StorW.new_any 8 w (by omega) (by omega))
  have c1 : Jrn.need aIm = 1 := rfl
  have c2 : Jrn.need aA = 1 := rfl
  have c3 : Jrn.need aNw = 1 := rfl
  have HFm := Lib.hid fun base g wx h hb => format_new base g (Stor.new 8) 1 (str aIm) wx h hb (Stor.new_ok 8 (by omega) (by omega)) rfl (by show 4 ≤ (Stor.new 8).bs.length; simp [Stor.new]) (by rw [counts_new]) (by rw [counts_new]) (by show (0 : Int) < 900000; omega) (by rw [str_size]; show 5 ≤ 1000000; omega) (by rw [str_data, c1]; omega)
    (by rw [str_data, c1]; simp [Stor.new]; rfl) (by rw [str_data]; have := HA.n1; unfold aF1 at this; rw [this]; simp [Stor.new]) (by omega) (by omega) (by rw [str_data]; have := HA.e1; unfold aR1 aF1 at this; exact this)
  rw [str_data] at HFm
  have HFm2 : Hid (∀ base g wx, StorW.Is wx base g (Stor.new 8) → base ≤ wx.heap.size → Calls Try.prog 36 #[.pointer (some ⟨g, 0, none⟩), .string ⟨#[105, 109, 97, 103, 101]⟩] wx (FormatOut base g aR1 (jC 0 1 ((0 : Nat) : Int) ((1 : Nat) : Int) 2 g false) wx)) := fun base g wx h hb => by
    have := HFm.out base g wx h hb
    have e1 : layS (Stor.new 8) 0 1 (Frm.put 1 0 aIm).1 (parts (Frm.put 1 0 aIm).1) = aR1 := by unfold aR1 aF1; rfl
    have e2 : parts (Frm.put 1 0 aIm).1 = 1 := HA.n1
    rw [e1, e2] at this
    exact this
  have HAp : Hid (∀ jb base g wx, Blk wx jb 64 (jC 0 1 ((0 : Nat) : Int) ((1 : Nat) : Int) 2 g false) → base ≤ jb → StorW.Is wx base g aR1.1 → Calls Try.prog 31 #[.pointer (some ⟨jb, 0, none⟩), .string ⟨#[97]⟩] wx (fun e w' => DoneOut jb base g aR2 (jC 0 1 1 2 3 g false) wx e w')) := fun jb base g wx h1 h2 h3 => by
    have e1 : layS aR1.1 1 2 (Frm.put 1 ((0 + 1 : Nat) : Int) aA).1 (parts (Frm.put 1 ((0 + 1 : Nat) : Int) aA).1) = aR2 := by
      unfold aR2 aF2
      rw [HA.n1]
      rfl
    have e2 : parts (Frm.put 1 ((0 + 1 : Nat) : Int) aA).1 = 1 := HA.n2
    have := append_yes jb base g 0 1 aR1.1 2 1 0 (str aA) wx h1 h2 h3 HA.ok1 (by have := HA.w1; omega) (by omega) (by omega) (by omega) (by rw [str_size]; show 1 ≤ 1000000; omega) (by omega) (by omega) (by rw [str_data, c2]; omega)
      (by rw [str_data, c2]; unfold LeftI; rw [HA.l1]; rfl) (by rw [str_data, e2, HA.l1]; omega) (by omega) (by omega)
    rw [str_data, e1, e2] at this
    exact this
  have HOp : Hid (∀ base g wx, StorW.Is wx base g aR2.1 → Calls Try.prog 37 #[.pointer (some ⟨g, 0, none⟩)] wx (fun e w' => ∃ jb A c, e = .returned (.tuple #[.pointer (some ⟨jb, 0, none⟩), .string ⟨#[105, 109, 97, 103, 101]⟩, .slice A 1 c, .int .i64 0]) ∧ wx.heap.size ≤ jb ∧ Blk w' jb 64 (jC 0 1 1 ((2 : Nat) : Int) (Jrn.stamped aR2.1.bs) g false) ∧ TxW w' wx.heap.size A 1 c [aA] ∧ Below wx.heap.size wx w')) := fun base g wx h => by
    have := open_yes base g aR2.1 wx h HA.ok2 HA.on2 (by rw [HA.l2]; omega) (by rw [HA.ct])
    rw [HA.ct] at this
    exact this
  have HTn : Hid (∀ jb base g wx, Blk wx jb 64 (jC 0 1 1 ((2 : Nat) : Int) (Jrn.stamped aR2.1.bs) g false) → base ≤ jb → StorW.Is wx base g aR2.1 → Calls Try.prog 32 #[.pointer (some ⟨jb, 0, none⟩), .string ⟨#[110, 101, 119]⟩] wx (fun e w' => DoneOut jb base g aR3 (jC ((1 : Nat) : Int) 2 0 ((5 : Nat) : Int) (Jrn.stamped aR2.1.bs + 1) g false) wx e w')) := fun jb base g wx h1 h2 h3 => by
    have e1 : layS aR2.1 ((1 - 0) * (aR2.1.bs.length / 2)) (Jrn.stamped aR2.1.bs) (Frm.put (1 + 1) 0 aNw).1 (parts (Frm.put (1 + 1) 0 aNw).1) = aR3 := by unfold aR3 aF3; rfl
    have e2 : parts (Frm.put (1 + 1) 0 aNw).1 = 1 := HA.n3
    have := turn_yes jb base g 0 2 aR2.1 (Jrn.stamped aR2.1.bs) 1 1 (str aNw) wx h1 h2 h3 HA.ok2 (by have := HA.w2; omega) (by omega) (by rw [str_size]; show 3 ≤ 1000000; omega) (by omega) (by omega) (by rw [str_data, c3]; omega)
      (by rw [str_data, c3, HA.l2]; rfl) (by rw [str_data, e2, HA.l2]; omega) HA.s1 (by have := HA.s2; omega)
    rw [str_data, e1, e2, HA.l2] at this
    exact this
  have HNo := Lib.hid fun wx => format_no (.pointer none) ⟨#[]⟩ wx (.inl rfl)
  have HNd := Lib.hid fun wx => need_any ⟨#[]⟩ wx (by show 0 ≤ 1000000000; omega)
  have HNd0 : Hid (Jrn.need (⟨#[]⟩ : ByteArray).data.toList = 1) := rfl
  have HE := Lib.hid HA
  clear HFm HA c1 c2 c3
  go_enter Try.func38, Try.ntmps38
  go_wp2_with fail
  refine HNew.out.mono ?_
  rintro e w1 ⟨g, rfl, i1, b1⟩
  have HI1 := Lib.hid (HFm2.out w.heap.size g w1 i1 b1.size)
  have hB1 := Lib.hid b1
  clear i1 b1
  go_wp2_with fail
  refine HI1.out.mono ?_
  rintro e w2 ⟨jb, rfl, hjb, hb2, i2, b2, k2⟩
  have hB2 := Lib.hid (hB1.out.trans b2)
  have hgj : w.heap.size ≤ jb := Nat.le_trans hB1.out.size hjb
  have HI2 := Lib.hid (HAp.out jb w.heap.size g w2 hb2 hgj i2)
  clear hb2 i2 b2 k2 HI1
  go_wp2_with fail
  refine HI2.out.mono ?_
  rintro e w3 ⟨rfl, hb3, i3, b3, k3⟩
  have hB3 := Lib.hid (hB2.out.trans b3)
  have HI3 := Lib.hid (HOp.out w.heap.size g w3 i3)
  have Hi3 := Lib.hid i3
  rw [HE.out.e2]
  clear hb3 i3 b3 k3 HI2
  go_wp2_with fail
  refine HI3.out.mono ?_
  rintro e w4 ⟨kb, A, c, rfl, hkb, hb4, ht4, b4⟩
  have hB4 := Lib.hid (below_step hB3.out b4)
  have hgk : w.heap.size ≤ kb := Nat.le_trans hB3.out.size hkb
  have HI4 := Lib.hid (HTn.out kb w.heap.size g w4 hb4 hgk (Hi3.out.below b4))
  have Ht4 := Lib.hid ht4
  clear hb4 ht4 b4 HI3
  go_wp2_with fail
  refine HI4.out.mono ?_
  rintro e w5 ⟨rfl, hb5, i5, b5, k5⟩
  have hB5 := Lib.hid (hB4.out.trans b5)
  have hJ5 := hb5 HE.out.e3
  have ht5 := Ht4.out.keepJ k5
  obtain ⟨b, off, s, hA, hlt, hs0, hc0⟩ := ht5.txs.at_ (show 0 < 1 by omega)
  have hs1 : s = aA := by simpa using hs0.symm
  subst hs1
  have hc0' : w5.cell? ⟨b, off, none⟩ = some (.string ⟨#[97]⟩) := hc0
  have HLf := Lib.hid (life_ok kb g ((1 : Nat) : Int) 2 0 ((5 : Nat) : Int) (Jrn.stamped aR2.1.bs + 1) w5 hJ5)
  have HCt := Lib.hid (count_ok kb g ((1 : Nat) : Int) 2 0 ((5 : Nat) : Int) (Jrn.stamped aR2.1.bs + 1) w5 hJ5)
  have HLt := Lib.hid (left_ok kb w.heap.size g aR3.1 2 0 (Jrn.stamped aR2.1.bs + 1) w5 1 5 hJ5 i5 HE.out.ok3 (by omega) (by omega))
  have e8 : (((1 + 1) * (aR3.1.bs.length / 2) : Nat) : Int) - ((5 : Nat) : Int) = 3 := by rw [HE.out.l3]; rfl
  rw [e8] at HLt
  rw [HE.out.e3]
  subst hA
  clear hb5 i5 b5 k5 HI4 hc0 hs0 ht5
  go_wp2_with fail
  refine (HNo.out _).mono ?_
  rintro e w6 ⟨rfl, hw⟩
  subst hw
  go_wp2_with fail
  refine HLf.out.mono ?_
  rintro e w6 ⟨rfl, hw⟩
  subst hw
  go_wp2_with fail
  refine HCt.out.mono ?_
  rintro e w6 ⟨rfl, hw⟩
  subst hw
  go_wp2_with fail
  refine HLt.out.mono ?_
  rintro e w6 ⟨rfl, m, hw⟩
  go_wp2_with fail
  refine (HNd.out _).mono ?_
  rintro e w7 ⟨rfl, hw7⟩
  subst hw7
  rw [HNd0.out]
  go_wp2_with fail
  go_ret
  subst hw
  exact ⟨rfl, hB5.out.trans (below_drewN (Below.refl _ _) m)⟩
end Go.Proofs.Ytdhnegcblnpmfaa.JrnW

namespace Go.Proofs.Ytdhnegcblnpmfaa.JrnW
open Go.RowKit Mem Jrn PackW FrameW
set_option linter.unusedVariables false
set_option linter.unusedSimpArgs false

abbrev j0C : Array Value := #[.int .i64 0, .int .i64 0, .int .i64 0, .int .i64 0, .int .i64 0, .pointer none, .bool false]
set_option maxHeartbeats 4000000 in
set_option maxRecDepth 100000 in
theorem journalNobody_walk (t : ByteArray) (w : World) :
    Calls Try.prog 8 #[.string t] w fun e w' => e = .returned (.bool true) ∧ Below w.heap.size w w' := by
  obtain ⟨W, hW⟩ : ∃ W, W = (w.alloc (.cells j0C 64)).alloc (.cells #[.pointer none, .pointer (some ⟨w.heap.size, 0, none⟩)] 60) := ⟨_, rfl⟩
  have hb : Below w.heap.size w W := by rw [hW]; exact ((Below.refl _ _).alloc (Nat.le_refl _) _).alloc (by simp) _
  have hk : Blk W w.heap.size 64 j0C := by rw [hW]; exact (Blk.new w _ _).alloc _
  have hr : Blk W (w.heap.size + 1) 60 #[.pointer none, .pointer (some ⟨w.heap.size, 0, none⟩)] := by
    rw [hW]
    have := Blk.new (w.alloc (.cells j0C 64)) 60 #[.pointer none, .pointer (some ⟨w.heap.size, 0, none⟩)]
    simpa using this
  go_enter Try.func8, Try.ntmps8
  go_wp2_with fail
  rw [← hW]
  clear hW
  go_loop [5] (fun i => ∃ k : Nat, k ≤ 2 ∧ i = .int .i64 k) (fun i => 2 - (intOf i).toNat)
  case atStart => exact ⟨0, by omega, rfl⟩
  case round =>
    obtain ⟨k, hk2, rfl⟩ := hrel
    by_cases hlt : k < 2
    · obtain ⟨v, hv, hc⟩ : ∃ v, None' W v ∧ W.cell? ⟨w.heap.size + 1, k, none⟩ = some v := by
        have : k = 0 ∨ k = 1 := by omega
        rcases this with rfl | rfl
        · exact ⟨_, .inl rfl, hr.cell 0⟩
        · exact ⟨_, .inr ⟨_, _, _, _, _, _, _, rfl, hk⟩, hr.cell 1⟩
      have H1 := Lib.hid (append_none t hv)
      have H2 := Lib.hid (turn_none t hv)
      have H3 := Lib.hid (left_none hv)
      have H4 := Lib.hid (life_none hv)
      have H5 := Lib.hid (count_none hv)
      clear hv hk hr
      go_wp2_with fail
      refine H1.out.mono ?_
      rintro e w1 ⟨rfl, hw⟩
      subst hw
      go_wp2_with fail
      refine H2.out.mono ?_
      rintro e w1 ⟨rfl, hw⟩
      subst hw
      go_wp2_with fail
      refine H3.out.mono ?_
      rintro e w1 ⟨rfl, hw⟩
      subst hw
      go_wp2_with fail
      refine H4.out.mono ?_
      rintro e w1 ⟨rfl, hw⟩
      subst hw
      go_wp2_with fail
      refine H5.out.mono ?_
      rintro e w1 ⟨rfl, hw⟩
      subst hw
      go_wp2_with fail
      exact ⟨⟨k + 1, by omega, by go_num⟩, by simp [intOf]; omega⟩
    · have hn : StorW.Nobody (W.alloc (.cells #[.slice none 0 0, .bool false, .int .i64 0, .int .i64 0, .int .i64 0] 50)) (.pointer (some ⟨W.heap.size, 0, none⟩)) := .inr ⟨_, rfl, Blk.new _ _ _⟩
      have HF := Lib.hid (format_no _ t _ hn)
      have HO := Lib.hid fun wx => open_no (.pointer none) wx (.inl rfl)
      have bn : Below W.heap.size W (W.alloc (.cells #[.slice none 0 0, .bool false, .int .i64 0, .int .i64 0, .int .i64 0] 50)) := (Below.refl _ _).alloc (Nat.le_refl _) _
      go_wp2_with fail
      refine HF.out.mono ?_
      rintro e w1 ⟨rfl, hw⟩
      subst hw
      go_wp2_with fail
      refine (HO.out _).mono ?_
      rintro e w1 ⟨rfl, hw⟩
      subst hw
      go_wp2_with fail
      refine (awake34_any _).mono ?_
      rintro e w1 ⟨rfl, hb1⟩
      go_wp2_with fail
      go_ret
      exact ⟨rfl, below_step (below_step hb bn) hb1⟩
end Go.Proofs.Ytdhnegcblnpmfaa.JrnW
