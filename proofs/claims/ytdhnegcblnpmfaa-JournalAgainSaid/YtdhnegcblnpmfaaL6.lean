/-
  Merged: The shelf's contracts of strings.Repeat and of two methods of a builder, laid at this program (written by the kit's own tool for laying; its numbers are this seat's).; Contract: (block).written.; WriteString of a builder leaves all blocks that are neither builders nor bytes.; The shelf's contracts of (*strings.Builder).String and Len, in the forms that say what stays (numbers as in Repeat).; Events as plain data: which may be, how they are laid and taken.; A journal as plain data: what a crash leaves, what is found again (no program in sight).
-/
import Derived.Test.YtdhnegcblnpmfaaL4
import Derived.Test.YtdhnegcblnpmfaaL2
import Derived.Test.YtdhnegcblnpmfaaL3
import Derived.Test.YtdhnegcblnpmfaaL1
import Derived.Test.YtdhnegcblnpmfaaL5
import Derived.Shelf.Strings.Builder1
import Derived.Shelf.Strings.Builder2
import Derived.Shelf.Strings.Repeat
import Derived.Test.YtdhnegcblnpmfaaProg
import Derived.Shelf.Strings.BuilderK
import Derived.Shelf.Strings.BuilderF
namespace Go.Proofs.Ytdhnegcblnpmfaa.Rep
open Go.Shelf Go.Proofs
def lays170_ren : Go.Shelf.Ren := ⟨fun | 170 => 76 | n => n, fun | 70 => 106 | 3 => 3 | 0 => 0 | 72 => 108 | 37 => 79 | 5 => 5 | n => n, fun | n => n⟩
theorem lays170 : Go.Proofs.Lays.n170 Try.prog lays170_ren := {
  mixed := by kernel_rfl
  f170 := Try.func76.trans (congrArg some (by kernel_rfl))
  t0 := Try.underlying0
  a0 := Try.isAgg0
  z0 := Try.sizeOf0
  v0 := Try.zeroValue0
  t3 := Try.underlying3
  a3 := Try.isAgg3
  z3 := Try.sizeOf3
  v3 := Try.zeroValue3
  t37 := Try.underlying79
  a37 := Try.isAgg79
  z37 := Try.sizeOf79
  v37 := Try.zeroValue79
  t70 := Try.underlying106
  a70 := Try.isAgg106
  z70 := Try.sizeOf106
  v70 := Try.zeroValue106
  t72 := Try.underlying108
  a72 := Try.isAgg108
  z72 := Try.sizeOf108
  v72 := Try.zeroValue108 }
open Go.RowKit in
theorem Builder_Len (B b : Nat) (bs : List Value) (w : World) (h : Lib.IsBuilder 108 5 B b bs w) :
    Calls Try.prog 76 #[.pointer (some ⟨b, 0, none⟩)] w fun e w' => e = .returned (.int .i64 bs.length) ∧ w' = w := Any.Builder_Len lays170 B b bs w h
def lays169_ren : Go.Shelf.Ren := ⟨fun | 169 => 66 | n => n, fun | 70 => 106 | 9 => 9 | 0 => 0 | 72 => 108 | 37 => 79 | 127 => 132 | 3 => 3 | 5 => 5 | n => n, fun | n => n⟩
theorem lays169 : Go.Proofs.Lays.n169 Try.prog lays169_ren := {
  mixed := by kernel_rfl
  f169 := Try.func66.trans (congrArg some (by kernel_rfl))
  t0 := Try.underlying0
  a0 := Try.isAgg0
  z0 := Try.sizeOf0
  v0 := Try.zeroValue0
  t3 := Try.underlying3
  a3 := Try.isAgg3
  z3 := Try.sizeOf3
  v3 := Try.zeroValue3
  t9 := Try.underlying9
  a9 := Try.isAgg9
  z9 := Try.sizeOf9
  v9 := Try.zeroValue9
  t37 := Try.underlying79
  a37 := Try.isAgg79
  z37 := Try.sizeOf79
  v37 := Try.zeroValue79
  t70 := Try.underlying106
  a70 := Try.isAgg106
  z70 := Try.sizeOf106
  v70 := Try.zeroValue106
  t72 := Try.underlying108
  a72 := Try.isAgg108
  z72 := Try.sizeOf108
  v72 := Try.zeroValue108
  t127 := Try.underlying132
  a127 := Try.isAgg132
  z127 := Try.sizeOf132
  v127 := Try.zeroValue132 }
theorem Builder_Extra_169 : Builder.Extra Try.prog lays169_ren := {
  sizeBuilder := by kernel_rfl
  liesBuilder := by kernel_rfl
  t5 := Try.underlying5
  a5 := Try.isAgg5
  z5 := Try.sizeOf5
  v5 := Try.zeroValue5
  infoByte := by kernel_rfl
  cellsByte := by kernel_rfl
  sizeByte := by kernel_rfl
  neB5 := by decide }
open Go.RowKit in
theorem Builder_String_any (B b : Nat) (l : List UInt8) (w : World) (h : Lib.IsBuilder 108 5 B b (Lib.byteCells l) w) (hBw : B ≤ w.heap.size) :
    Calls Try.prog 66 #[.pointer (some ⟨b, 0, none⟩)] w fun e w' => e = .returned (.string ⟨l.toArray⟩) ∧ Below B w w' := Any.Builder_String_any lays169 Builder_Extra_169 B b l w h hBw
def lays105_ren : Go.Shelf.Ren := ⟨fun | 105 => 65 | 212 => 73 | 99 => 74 | 165 => 75 | 166 => 64 | 170 => 76 | 169 => 66 | 263 => 82 | 264 => 83 | 206 => 84 | 240 => 72 | 241 => 85 | 276 => 81 | 277 => 91 | n => n, fun | 9 => 9 | 3 => 3 | 4 => 4 | 20 => 20 | 0 => 0 | 46 => 127 | 109 => 128 | 5 => 5 | 72 => 108 | 76 => 112 | 51 => 123 | 146 => 141 | 53 => 143 | 148 => 144 | 70 => 106 | 37 => 79 | 75 => 111 | 127 => 132 | 164 => 139 | 80 => 101 | n => n, fun | n => n⟩
theorem lays105 : Go.Proofs.Lays.n105 Try.prog lays105_ren := {
  mixed := by kernel_rfl
  f99 := Try.func74.trans (congrArg some (by kernel_rfl))
  f105 := Try.func65.trans (congrArg some (by kernel_rfl))
  f165 := Try.func75.trans (congrArg some (by kernel_rfl))
  f166 := Try.func64.trans (congrArg some (by kernel_rfl))
  f169 := Try.func66.trans (congrArg some (by kernel_rfl))
  f170 := Try.func76.trans (congrArg some (by kernel_rfl))
  f206 := Try.func84.trans (congrArg some (by kernel_rfl))
  f212 := Try.func73.trans (congrArg some (by kernel_rfl))
  f240 := Try.func72.trans (congrArg some (by kernel_rfl))
  f241 := Try.func85.trans (congrArg some (by kernel_rfl))
  f263 := Try.func82.trans (congrArg some (by kernel_rfl))
  f264 := Try.func83.trans (congrArg some (by kernel_rfl))
  f276 := Try.func81.trans (congrArg some (by kernel_rfl))
  f277 := Try.func91.trans (congrArg some (by kernel_rfl))
  t0 := Try.underlying0
  a0 := Try.isAgg0
  z0 := Try.sizeOf0
  v0 := Try.zeroValue0
  t3 := Try.underlying3
  a3 := Try.isAgg3
  z3 := Try.sizeOf3
  v3 := Try.zeroValue3
  t4 := Try.underlying4
  a4 := Try.isAgg4
  z4 := Try.sizeOf4
  v4 := Try.zeroValue4
  t5 := Try.underlying5
  a5 := Try.isAgg5
  z5 := Try.sizeOf5
  v5 := Try.zeroValue5
  t9 := Try.underlying9
  a9 := Try.isAgg9
  z9 := Try.sizeOf9
  v9 := Try.zeroValue9
  t20 := Try.underlying20
  a20 := Try.isAgg20
  z20 := Try.sizeOf20
  v20 := Try.zeroValue20
  t37 := Try.underlying79
  a37 := Try.isAgg79
  z37 := Try.sizeOf79
  v37 := Try.zeroValue79
  t46 := Try.underlying127
  a46 := Try.isAgg127
  z46 := Try.sizeOf127
  v46 := Try.zeroValue127
  t51 := Try.underlying123
  a51 := Try.isAgg123
  z51 := Try.sizeOf123
  v51 := Try.zeroValue123
  t53 := Try.underlying143
  a53 := Try.isAgg143
  z53 := Try.sizeOf143
  v53 := Try.zeroValue143
  t70 := Try.underlying106
  a70 := Try.isAgg106
  z70 := Try.sizeOf106
  v70 := Try.zeroValue106
  t72 := Try.underlying108
  a72 := Try.isAgg108
  z72 := Try.sizeOf108
  v72 := Try.zeroValue108
  t75 := Try.underlying111
  a75 := Try.isAgg111
  z75 := Try.sizeOf111
  v75 := Try.zeroValue111
  t76 := Try.underlying112
  a76 := Try.isAgg112
  z76 := Try.sizeOf112
  v76 := Try.zeroValue112
  t109 := Try.underlying128
  a109 := Try.isAgg128
  z109 := Try.sizeOf128
  v109 := Try.zeroValue128
  t127 := Try.underlying132
  a127 := Try.isAgg132
  z127 := Try.sizeOf132
  v127 := Try.zeroValue132
  t146 := Try.underlying141
  a146 := Try.isAgg141
  z146 := Try.sizeOf141
  v146 := Try.zeroValue141
  t148 := Try.underlying144
  a148 := Try.isAgg144
  z148 := Try.sizeOf144
  v148 := Try.zeroValue144
  t164 := Try.underlying139
  a164 := Try.isAgg139
  z164 := Try.sizeOf139
  v164 := Try.zeroValue139 }
theorem Builder_Extra_105 : Builder.Extra Try.prog lays105_ren := {
  sizeBuilder := by kernel_rfl
  liesBuilder := by kernel_rfl
  t5 := Try.underlying5
  a5 := Try.isAgg5
  z5 := Try.sizeOf5
  v5 := Try.zeroValue5
  infoByte := by kernel_rfl
  cellsByte := by kernel_rfl
  sizeByte := by kernel_rfl
  neB5 := by decide }
open Go.RowKit Go.Lib in
theorem strings_Repeat (s : ByteArray) (c : Nat) (w : World) (hc : c ≤ 9223372036854775807) (hlen : s.size * c ≤ 140737488355328) :
    Calls Try.prog 65 #[.string s, .int .i64 c] w fun e w' => e = .returned (.string ⟨(Lib.repeatL s.data.toList c).toArray⟩) ∧ Below w.heap.size w w' := Any.strings_Repeat lays105 Builder_Extra_105 s c w hc hlen
end Go.Proofs.Ytdhnegcblnpmfaa.Rep

namespace Go.Proofs.Ytdhnegcblnpmfaa.JrnW
open Go.RowKit Mem Jrn PackW FrameW
set_option linter.unusedVariables false
set_option linter.unusedSimpArgs false

def PutPost (B b : Nat) (l : List UInt8) (w : World) (e : Ending) (w' : World) : Prop := (∃ v, e = .returned v) ∧ Lib.IsBuilder 108 5 B b (Lib.byteCells l) w' ∧ Below B w w'
theorem put1_any (n k : Int) (B b : Nat) (l : List UInt8) (w : World) (h : Lib.IsBuilder 108 5 B b (Lib.byteCells l) w) (hB : B ≤ w.heap.size) (hl : l.length ≤ 100000) (hf : Pack.fitB n k = true) (n1 : n ≤ 9223372036854775807) :
    Calls Try.prog 62 #[.int .i64 n, .int .i64 k, .pointer (some ⟨b, 0, none⟩)] w (PutPost B b (l ++ Pack.be k.toNat n.toNat) w) := by
  obtain ⟨k1, k8, n0, _, _⟩ := fitB_of hf
  have HN := Lib.hid (number_any n k w (by omega) n1)
  rw [show Pack.number n k = (Pack.be k.toNat n.toNat, 0) by simp [Pack.number, hf]] at HN
  clear hf
  go_enter Try.func62, Try.ntmps62
  go_wp2_with fail
  refine HN.out.mono ?_
  rintro e w1 ⟨rfl, b1⟩
  have h1 := isbld_below h b1
  have hb1 : Below B w w1 := b1.mono hB
  go_wp2_with fail
  refine (BldW.writeString B b _ _ _ h1 (by rw [Lib.byteCells_length, str_size, Pack.be_length]; omega) (Nat.le_trans hB b1.size)).mono ?_
  rintro e w2 ⟨rfl, h2, b2⟩
  go_wp2_with fail
  go_end0
  rw [strCells_str, byteCells_app] at h2
  exact ⟨⟨_, rfl⟩, .inr h2, hb1.trans b2⟩
theorem rep_zero (n : Nat) : Lib.repeatL [(0 : UInt8)] n = List.replicate n 0 := by
  induction n with
  | zero => rfl
  | succ n ih => rw [Lib.repeatL, ih]; rfl
theorem rep_is (n : Nat) (w : World) (h : n ≤ 240) : Calls Try.prog 65 #[.string ⟨#[0]⟩, .int .i64 n] w fun e w' => e = .returned (.string (str (List.replicate n 0))) ∧ Below w.heap.size w w' := by
  have := Rep.strings_Repeat ⟨#[0]⟩ n w (by omega) (by simp [ByteArray.size]; omega)
  rw [show (⟨#[0]⟩ : ByteArray).data.toList = [0] from rfl, rep_zero] at this
  exact this
theorem rep_at (c : Int) (n : Nat) (w : World) (hc : c = (n : Int)) (h : n ≤ 240) : Calls Try.prog 65 #[.string ⟨#[0]⟩, .int .i64 c] w fun e w' => e = .returned (.string (str (List.replicate n 0))) ∧ Below w.heap.size w w' := by
  subst hc
  exact rep_is n w h
theorem writeB_eq (st pt id : Int) (la : Bool) (bs : List UInt8) : writeB ⟨st, pt, id, la, bs⟩ = [] ++ Pack.be (4 : Int).toNat st.toNat ++ Pack.be (1 : Int).toNat pt.toNat ++ Pack.be (1 : Int).toNat (if la then 1 else 0 : Int).toNat ++ Pack.be (2 : Int).toNat (bs.length : Int).toNat ++ Pack.be (4 : Int).toNat id.toNat ++ bs ++ List.replicate (240 - bs.length) 0 ++ Pack.be (4 : Int).toNat st.toNat := by
  cases la <;> simp [writeB]
set_option maxHeartbeats 4000000 in
set_option maxRecDepth 100000 in
theorem written_any (b : Bk) (w : World) (h : b.Fine) : Calls Try.prog 57 #[bkV b] w (Ret (.string (str (writeB b))) w) := by
  obtain ⟨s0, s1, p0, p1, i0, i1, few⟩ := h
  obtain ⟨st, pt, id, la, bs⟩ := b
  simp only at s0 s1 p0 p1 i0 i1 few
  have hbld := Lib.fresh_isBuilder 108 5 (w.alloc (.cells (bkC ⟨st, pt, id, la, bs⟩) 100))
  rw [World.size_alloc] at hbld
  obtain ⟨U, hU⟩ : ∃ U, U = (w.alloc (.cells (bkC ⟨st, pt, id, la, bs⟩) 100)).alloc (.cells #[.pointer none, .slice none 0 0] 108) := ⟨_, rfl⟩
  have bU : Below w.heap.size w U := by rw [hU]; exact ((Below.refl _ _).alloc (Nat.le_refl _) _).alloc (by simp) _
  have kU : Blk U w.heap.size 100 (bkC ⟨st, pt, id, la, bs⟩) := by rw [hU]; exact (Blk.new _ _ _).alloc _
  have hUs : w.heap.size + 1 ≤ U.heap.size := by rw [hU]; simp
  rw [← hU] at hbld
  obtain ⟨x0, x1, x2, x3, x4⟩ := blk5' kU
  have hI0 : Lib.IsBuilder 108 5 (w.heap.size + 1) (w.heap.size + 1) (Lib.byteCells []) U := hbld
  have F1 : Hid (Pack.fitB st 4 = true) := by show _ = _; rw [Frm.fit4]; omega
  have F2 : Hid (Pack.fitB pt 1 = true) := by show _ = _; simp [Pack.fitB, Pack.isW]; omega
  have F3 : Hid (Pack.fitB (if la then 1 else 0) 1 = true) := by show _ = _; cases la <;> rfl
  have F4 : Hid (Pack.fitB (bs.length : Int) 2 = true) := by show _ = _; simp [Pack.fitB, Pack.isW]; omega
  have F5 : Hid (Pack.fitB id 4 = true) := by show _ = _; rw [Frm.fit4]; omega
  have HW := Lib.hid (writeB_eq st pt id la bs)
  have hz : (str bs).size = bs.length := str_size _
  have z1 : (0 : Int) ≤ ((str bs).size : Int) := by omega
  have z2 : ((str bs).size : Int) ≤ 240 := by omega
  have HZ := Lib.hid hz
  clear hbld hz
  cases la
  all_goals
    go_enter Try.func57, Try.ntmps57
    go_upto_region 6 with fail
    rw [← hU]
    clear hU
    go_wp2_with fail
    refine (put1_any _ 4 _ _ _ _ hI0 hUs (by simp [Pack.be_length]) (by first | exact F1.out | (rw [HZ.out]; exact F1.out)) (by first | omega | (rw [HZ.out]; omega))).mono ?_
    rintro e w1 ⟨⟨v1, rfl⟩, hI1, b1⟩
    have c1 : Below (w.heap.size + 1) U w1 := b1
    have k1 := kU.below c1 (by omega)
    clear x0 x1 x2 x3 x4
    obtain ⟨x0, x1, x2, x3, x4⟩ := blk5' k1
    go_wp2_with fail
    refine (put1_any _ 1 _ _ _ _ hI1 (Nat.le_trans hUs c1.size) (by simp [Pack.be_length]) (by first | exact F2.out | (rw [HZ.out]; exact F2.out)) (by first | omega | (rw [HZ.out]; omega))).mono ?_
    rintro e w2 ⟨⟨v2, rfl⟩, hI2, b2⟩
    have c2 : Below (w.heap.size + 1) U w2 := c1.trans b2
    have k2 := kU.below c2 (by omega)
    clear x0 x1 x2 x3 x4
    obtain ⟨x0, x1, x2, x3, x4⟩ := blk5' k2
    go_wp2_with fail
    refine (put1_any _ 1 _ _ _ _ hI2 (Nat.le_trans hUs c2.size) (by simp [Pack.be_length]) (by first | exact F3.out | (rw [HZ.out]; exact F3.out)) (by first | omega | (rw [HZ.out]; omega))).mono ?_
    rintro e w3 ⟨⟨v3, rfl⟩, hI3, b3⟩
    have c3 : Below (w.heap.size + 1) U w3 := c2.trans b3
    have k3 := kU.below c3 (by omega)
    clear x0 x1 x2 x3 x4
    obtain ⟨x0, x1, x2, x3, x4⟩ := blk5' k3
    go_wp2_with fail
    refine (put1_any _ 2 _ _ _ _ hI3 (Nat.le_trans hUs c3.size) (by simp [Pack.be_length]) (by first | exact F4.out | (rw [HZ.out]; exact F4.out)) (by first | omega | (rw [HZ.out]; omega))).mono ?_
    rintro e w4 ⟨⟨v4, rfl⟩, hI4, b4⟩
    have c4 : Below (w.heap.size + 1) U w4 := c3.trans b4
    have k4 := kU.below c4 (by omega)
    clear x0 x1 x2 x3 x4
    obtain ⟨x0, x1, x2, x3, x4⟩ := blk5' k4
    go_wp2_with fail
    refine (put1_any _ 4 _ _ _ _ hI4 (Nat.le_trans hUs c4.size) (by simp [Pack.be_length]) (by first | exact F5.out | (rw [HZ.out]; exact F5.out)) (by first | omega | (rw [HZ.out]; omega))).mono ?_
    rintro e w5 ⟨⟨v5, rfl⟩, hI5, b5⟩
    have c5 : Below (w.heap.size + 1) U w5 := c4.trans b5
    have k5 := kU.below c5 (by omega)
    clear x0 x1 x2 x3 x4
    obtain ⟨x0, x1, x2, x3, x4⟩ := blk5' k5
    go_wp2_with fail
    refine (BldW.writeString _ _ _ _ _ hI5 (by rw [Lib.byteCells_length, HZ.out]; simp [Pack.be_length]; omega) (Nat.le_trans hUs c5.size)).mono ?_
    rintro e w6 ⟨rfl, h6, b6⟩
    rw [strCells_str, byteCells_app] at h6
    have c6 : Below (w.heap.size + 1) U w6 := c5.trans b6
    have k6 := kU.below c6 (by omega)
    clear x0 x1 x2 x3 x4
    obtain ⟨x0, x1, x2, x3, x4⟩ := blk5' k6
    go_wp2_with fail
    refine (rep_at _ (240 - bs.length) _ (by rw [HZ.out]; omega) (by omega)).mono ?_
    rintro e w7 ⟨rfl, b7⟩
    have hb7 : Below (w.heap.size + 1) w6 w7 := b7.mono (Nat.le_trans hUs c6.size)
    have h7 := isbld_below (.inr h6) b7
    have c7 : Below (w.heap.size + 1) U w7 := c6.trans hb7
    have k7 := kU.below c7 (by omega)
    clear x0 x1 x2 x3 x4
    obtain ⟨x0, x1, x2, x3, x4⟩ := blk5' k7
    go_wp2_with fail
    refine (BldW.writeString _ _ _ _ _ h7 (by rw [Lib.byteCells_length]; simp [Pack.be_length, str_size]; omega) (Nat.le_trans hUs c7.size)).mono ?_
    rintro e w8 ⟨rfl, h8, b8⟩
    rw [strCells_str, byteCells_app] at h8
    have c8 : Below (w.heap.size + 1) U w8 := c7.trans b8
    have k8 := kU.below c8 (by omega)
    clear x0 x1 x2 x3 x4
    obtain ⟨x0, x1, x2, x3, x4⟩ := blk5' k8
    go_wp2_with fail
    refine (put1_any _ 4 _ _ _ _ (.inr h8) (Nat.le_trans hUs c8.size) (by simp [Pack.be_length]; omega) F1.out (by omega)).mono ?_
    rintro e w9 ⟨⟨v9, rfl⟩, hI9, b9⟩
    have c9 : Below (w.heap.size + 1) U w9 := c8.trans b9
    go_wp2_with fail
    refine (BldW.string_some _ _ _ _ hI9 (by intro e; have := congrArg List.length e; simp [Pack.be_length] at this)).mono ?_
    rintro e w10 ⟨rfl, b10⟩
    go_wp2_with fail
    go_ret
    exact ⟨congrArg Ending.returned (congrArg Value.string (by rw [HZ.out]; simp [writeB, str])), bU.trans ((c9.trans b10).mono (by omega))⟩
end Go.Proofs.Ytdhnegcblnpmfaa.JrnW

namespace Go.Proofs.Ytdhnegcblnpmfaa.BldW
open Go.RowKit Mem
set_option linter.unusedVariables false

def KeepB (w w' : World) : Prop := ∀ (k : Nat) (cs : Array Value) (t : TypeId) (fr : Nat × Nat), t ≠ 108 → t ≠ 5 → w.heap[k]? = some (.cells cs t fr) → w'.heap[k]? = some (.cells cs t fr)
theorem KeepB.refl (w : World) : KeepB w w := fun _ _ _ _ _ _ h => h
theorem KeepB.trans {a b c : World} (h : KeepB a b) (k : KeepB b c) : KeepB a c := fun n cs t fr h1 h2 h3 => k n cs t fr h1 h2 (h n cs t fr h1 h2 h3)
theorem KeepB.blk {w w' : World} {g : Nat} {t : TypeId} {cs : Array Value} (h : KeepB w w') (hb : Blk w g t cs) (h1 : t ≠ 108) (h2 : t ≠ 5) : Blk w' g t cs := h g cs t (0, 0) h1 h2 hb
theorem keepB_set {w : World} {b : Nat} {cs : Array Value} (h : w.heap[b]? = some (.cells cs 108 (0, 0))) (i : Nat) (v : Value) : KeepB w (w.setCell ⟨b, i, none⟩ v) := by
  intro k c t fr h1 h2 hk
  have hne : k ≠ b := by
    rintro rfl
    rw [h] at hk
    injection hk with hk
    injection hk with _ hk
    exact h1 hk.symm
  rw [Below.heap_setCell _ _ _ _ hne]
  exact hk
theorem copyCheck_keep (B b : Nat) (bs : List Value) (w : World) (h : Lib.IsBuilder 108 5 B b bs w) :
    Calls Try.prog 72 #[.pointer (some ⟨b, 0, none⟩)] w fun e w' => e = .returned (.tuple #[]) ∧ (Lib.BuilderAt 108 5 B b (.pointer (some ⟨b, 0, none⟩)) bs w' ∧ Below B w w') ∧ KeepB w w' := by
  rcases h with h | h
  · refine (copyCheck_fresh b w h.cell0 h.shape h.frozen0).mono ?_
    rintro e w' ⟨rfl, rfl⟩
    obtain ⟨hB, v, hbk, _, _⟩ := id h
    exact ⟨rfl, ⟨h.used _, (Below.refl B w).setCell (p := ⟨b, 0, none⟩) h.1 _⟩, keepB_set hbk 0 _⟩
  · refine (copyCheck_used b w h.cell0).mono ?_
    rintro e w' ⟨rfl, rfl⟩
    exact ⟨rfl, ⟨h, Below.refl B _⟩, KeepB.refl _⟩
set_option maxHeartbeats 2000000 in
set_option maxRecDepth 100000 in
theorem writeString2 (B b : Nat) (bs : List Value) (s : ByteArray) (w : World) (h : Lib.IsBuilder 108 5 B b bs w) (hlen : bs.length + s.size ≤ 140737488355328) (hBw : B ≤ w.heap.size) :
    Calls Try.prog 64 #[.pointer (some ⟨b, 0, none⟩), .string s] w fun e w' => e = .returned (.tuple #[.int .i64 s.size, .nilIface]) ∧ (Lib.BuilderAt 108 5 B b (.pointer (some ⟨b, 0, none⟩)) (bs ++ Lib.strCells s) w' ∧ Below B w w') ∧ KeepB w w' := by
  obtain ⟨i0, hi, hz0, hz1, hz2⟩ := info_parts byteInfo
  go_enter Try.func64, Try.ntmps64
  go_wp2_with fail
  refine (copyCheck_keep B b bs _ h).mono ?_
  rintro e w1 ⟨rfl, ⟨h1, hb1⟩, hK1⟩
  obtain ⟨hB, v, hbk, hown, hne⟩ := h1
  have c0 : w1.cell? ⟨b, 0, none⟩ = some (.pointer (some ⟨b, 0, none⟩)) := by rw [Lib.cell_of_heap hbk]; rfl
  have c1 : w1.cell? ⟨b, 1, none⟩ = some v := by rw [Lib.cell_of_heap hbk]; rfl
  go_wp2_with (at_builtin; refine Lib.wpList_append_own_string _ rfl _ _ 79 9 rfl B 5 i0 Try.underlying79 Try.underlying9 hi hz0 hz1 hz2 _ _ _ rfl hown s rfl ?c3 ?c4 ?c5 ?_)
  case c3 => unfold maxLen; omega
  case c4 => omega
  case c5 => have := hb1.size; omega
  intro v' w2 hown' hgrow _
  have hlt : b < w1.heap.size := lt_of_block hbk
  have hb2 : w2.heap[b]? = some (.cells #[.pointer (some ⟨b, 0, none⟩), v] 108 (0, 0)) := by
    rw [hgrow.block b hlt (fun e => hne e.symm)]
    exact hbk
  have d0 : w2.cell? ⟨b, 0, none⟩ = some (.pointer (some ⟨b, 0, none⟩)) := by rw [Lib.cell_of_heap hb2]; rfl
  have d1 : w2.cell? ⟨b, 1, none⟩ = some v := by rw [Lib.cell_of_heap hb2]; rfl
  have f1 : w2.frozen? ⟨b, 1, none⟩ = false := Lib.frozen_of_heap hb2 1
  have hK2 : KeepB w1 w2 := by
    intro k cs t fr t1 t2 hk
    rw [hgrow.block k (lt_of_block hk)]
    · exact hk
    · intro e
      rcases hown.2 with ⟨rfl, _⟩ | ⟨g, cap, cur, rfl, _, hh, _⟩
      · simp [Value.ownBlock] at e
      · simp [Value.ownBlock] at e
        subst e
        rw [hh] at hk
        injection hk with hk
        injection hk with _ hk
        exact t2 hk.symm
  obtain ⟨ao, cap, hv⟩ := own_slice hown'
  rw [hv]
  go_wp2
  go_ret2
  refine ⟨rfl, ⟨?_, ?_⟩, (hK1.trans hK2).trans (keepB_set hb2 1 _)⟩
  · rw [hv] at hown'
    exact Lib.BuilderAt.put (T := 108) (e := 5) hB hb2 (bs' := bs ++ Lib.strCells s) (by simpa [Lib.strCells_length] using hown') (by decide)
  · exact (hb1.grown hgrow (by have := hb1.size; omega) (fun k hk => (hown.lt k hk).1)).setCell (p := ⟨b, 1, none⟩) hB _
end Go.Proofs.Ytdhnegcblnpmfaa.BldW

namespace Go.Proofs.Ytdhnegcblnpmfaa.Rep
open Go.Shelf Go.Proofs Go.RowKit Mem
set_option linter.unusedVariables false

theorem string_k (B b : Nat) (l : List UInt8) (w : World) (h : Lib.IsBuilderF 108 5 B b (Lib.byteCells l) w) (hBw : B ≤ w.heap.size) :
    Calls Try.prog 66 #[.pointer (some ⟨b, 0, none⟩)] w fun e w' => e = .returned (.string (PackW.str l)) ∧ (Lib.IsBuilderF 108 5 B b (Lib.byteCells l) w' ∧ Below B w w' ∧ Lib.OthersKept 5 (some b) w w') :=
  Any.Builder_String_any_k lays169 Builder_Extra_169 B b l w h hBw
theorem len_f (B b : Nat) (l : List UInt8) (w : World) (h : Lib.IsBuilderF 108 5 B b (Lib.byteCells l) w) :
    Calls Try.prog 76 #[.pointer (some ⟨b, 0, none⟩)] w fun e w' => e = .returned (.int .i64 l.length) ∧ w' = w := by
  have := Any.Builder_Len_f lays170 B b (Lib.byteCells l) w h
  rw [Lib.byteCells_length] at this
  exact this
theorem isbldF_below {w w' : World} {T e : TypeId} {B b : Nat} {bs : List Value} (h : Lib.IsBuilderF T e B b bs w) (hb : Below w.heap.size w w') : Lib.IsBuilderF T e B b bs w' := by
  have key : ∀ p, Lib.BuilderAtF T e B b p bs w → Lib.BuilderAtF T e B b p bs w' := by
    rintro p ⟨hB, v, hbk, hown, hne⟩
    refine ⟨hB, v, (hb.block b (lt_of_block hbk)).trans hbk, ⟨hown.1, ?_⟩, hne⟩
    rcases hown.2 with h2 | ⟨g, cap, cur, fz, hv, hg, hh, r⟩
    · exact .inl h2
    · exact .inr ⟨g, cap, cur, fz, hv, hg, (hb.block g (lt_of_block hh)).trans hh, r⟩
  exact h.elim (fun h => .inl (key _ h)) (fun h => .inr (key _ h))
end Go.Proofs.Ytdhnegcblnpmfaa.Rep

namespace Go.Proofs.Ytdhnegcblnpmfaa.Frm
open Pack
set_option linter.unusedVariables false

structure Ev where
  kd : Int
  ln : List UInt8
  nk : Int
  nn : Int
  nj : Int
  ne : Int
deriving DecidableEq
def fenceB (k : Int) : Bool := k == 6 || k == 13
def jobB (k j : Int) : Bool := if fenceB k then j == 0 else decide (1 ≤ j) && decide (j ≤ 99999)
def knownB (k : Int) : Bool := decide (1 ≤ k) && decide (k ≤ 14)
def noteB (k n j e : Int) : Bool := knownB k && jobB k j && !(decide (n < 0)) && !(decide (48 ≤ n)) && !(decide (e < 0)) && !(decide (999999999 < e))
theorem noteB_bd {k n j e : Int} (h : noteB k n j e = true) : 1 ≤ k ∧ k ≤ 14 ∧ 0 ≤ n ∧ n < 48 ∧ 0 ≤ j ∧ j ≤ 99999 ∧ 0 ≤ e ∧ e ≤ 999999999 := by
  simp only [noteB, knownB, jobB, Bool.and_eq_true, decide_eq_true_eq, Bool.not_eq_true', decide_eq_false_iff_not] at h
  obtain ⟨⟨⟨⟨⟨⟨h1, h2⟩, h3⟩, h4⟩, h5⟩, h6⟩, h7⟩ := h
  split at h3
  · simp at h3
    omega
  · simp at h3
    omega
def bareN (e : Ev) : Bool := e.nk == 0 && e.nn == 0 && e.nj == 0 && e.ne == 0
def evB (e : Ev) : Bool :=
  if e.kd = 1 then decide (e.ln.length ≤ 1000) && bareN e else if e.kd = 2 then e.ln.isEmpty && bareN e else if e.kd = 3 then e.ln.isEmpty && noteB e.nk e.nn e.nj e.ne else false
def evE (e : Ev) : Int := if evB e then 0 else 320
theorem evE_yes {e : Ev} (h : evB e = true) : evE e = 0 := by simp [evE, h]
theorem evE_no {e : Ev} (h : evB e = false) : evE e = 320 := by simp [evE, h]
theorem evB_1 {e : Ev} (h : e.kd = 1) : evB e = (decide (e.ln.length ≤ 1000) && bareN e) := by simp [evB, h]
theorem evB_2 {e : Ev} (h : e.kd = 2) : evB e = (e.ln.isEmpty && bareN e) := by simp [evB, h]
theorem evB_3 {e : Ev} (h : e.kd = 3) : evB e = (e.ln.isEmpty && noteB e.nk e.nn e.nj e.ne) := by simp [evB, h]
theorem evB_0 {e : Ev} (h1 : e.kd ≠ 1) (h2 : e.kd ≠ 2) (h3 : e.kd ≠ 3) : evB e = false := by simp [evB, h1, h2, h3]
theorem evB_kd {e : Ev} (h : evB e = true) : e.kd = 1 ∨ e.kd = 2 ∨ e.kd = 3 := by
  by_cases h1 : e.kd = 1
  · exact .inl h1
  by_cases h2 : e.kd = 2
  · exact .inr (.inl h2)
  by_cases h3 : e.kd = 3
  · exact .inr (.inr h3)
  rw [evB_0 h1 h2 h3] at h
  cases h
def tailL (e : Ev) : List UInt8 := if e.kd = 1 then be 2 e.ln.length ++ e.ln else if e.kd = 3 then be 1 e.nk.toNat ++ be 1 e.nn.toNat ++ (be 4 e.nj.toNat ++ be 4 e.ne.toNat) else []
def lay (e : Ev) : List UInt8 × Int := if evB e then (be 1 e.kd.toNat ++ tailL e, 0) else ([], 320)
theorem lay_yes {e : Ev} (h : evB e = true) : lay e = (be 1 e.kd.toNat ++ tailL e, 0) := by rw [lay, if_pos h]
theorem lay_no {e : Ev} (h : evB e = false) : lay e = ([], 320) := by rw [lay, if_neg (by simp [h])]
theorem tail_1 {e : Ev} (h : e.kd = 1) : tailL e = be 2 e.ln.length ++ e.ln := by rw [tailL, if_pos h]
theorem tail_2 {e : Ev} (h : e.kd = 2) : tailL e = [] := by rw [tailL, if_neg (by omega), if_neg (by omega)]
theorem tail_3 {e : Ev} (h : e.kd = 3) : tailL e = be 1 e.nk.toNat ++ be 1 e.nn.toNat ++ (be 4 e.nj.toNat ++ be 4 e.ne.toNat) := by rw [tailL, if_neg (by omega), if_pos h]
def ev0 : Ev := ⟨0, [], 0, 0, 0, 0⟩
/-- what bytes would be as an event -/
def guess (s : List UInt8) : Ev :=
  if (takeNum s 0 1).1 = 1 then ⟨1, (takeText s 1).1, 0, 0, 0, 0⟩
  else if (takeNum s 0 1).1 = 3 then ⟨3, [], (takeNum s 1 1).1, (takeNum s 2 1).1, (takeNum s 3 4).1, (takeNum s 7 4).1⟩
  else ⟨(takeNum s 0 1).1, [], 0, 0, 0, 0⟩
def take (s : List UInt8) : Ev × Int := if (lay (guess s)).2 ≠ 0 ∨ (lay (guess s)).1 ≠ s then (ev0, 320) else (guess s, 0)
theorem guess_1 {s : List UInt8} (h : (takeNum s 0 1).1 = 1) : guess s = ⟨1, (takeText s 1).1, 0, 0, 0, 0⟩ := by rw [guess, if_pos h]
theorem guess_3 {s : List UInt8} (h : (takeNum s 0 1).1 = 3) : guess s = ⟨3, [], (takeNum s 1 1).1, (takeNum s 2 1).1, (takeNum s 3 4).1, (takeNum s 7 4).1⟩ := by rw [guess, if_neg (by omega), if_pos h]
theorem guess_0 {s : List UInt8} (h : (takeNum s 0 1).1 ≠ 1) (h2 : (takeNum s 0 1).1 ≠ 3) : guess s = ⟨(takeNum s 0 1).1, [], 0, 0, 0, 0⟩ := by rw [guess, if_neg h, if_neg h2]
theorem take_no {s : List UInt8} (h : (lay (guess s)).2 ≠ 0 ∨ (lay (guess s)).1 ≠ s) : take s = (ev0, 320) := by rw [take, if_pos h]
theorem take_yes {s : List UInt8} (h : (lay (guess s)).2 = 0) (h2 : (lay (guess s)).1 = s) : take s = (guess s, 0) := by rw [take, if_neg (by simp [h, h2])]
theorem take_lay {s : List UInt8} (h : (take s).2 = 0) : lay (take s).1 = (s, 0) := by
  unfold take at h ⊢
  split at h
  · cases h
  · next g =>
    rw [if_neg g]
    simp only [not_or, Decidable.not_not] at g
    exact Prod.ext g.2 g.1
theorem lay_err {e : Ev} : (lay e).2 = 0 ∨ lay e = ([], 320) := by
  cases h : evB e
  · exact .inr (lay_no h)
  · exact .inl (by rw [lay_yes h])
theorem take_be1 {p q : List UInt8} {n : Int} (h0 : 0 ≤ n) (h1 : n < 256) : takeNum (p ++ (be 1 n.toNat ++ q)) (p.length : Int) 1 = (n, (p.length : Int) + 1, 0) := by
  have := takeNum_at p q n.toNat 1 rfl (by simp; omega) (by omega)
  rw [show ((n.toNat : Nat) : Int) = n by omega] at this
  exact this
theorem take_be4 {p q : List UInt8} {n : Int} (h0 : 0 ≤ n) (h1 : n < 4294967296) : takeNum (p ++ (be 4 n.toNat ++ q)) (p.length : Int) 4 = (n, (p.length : Int) + 4, 0) := by
  have := takeNum_at p q n.toNat 4 rfl (by simp; omega) (by omega)
  rw [show ((n.toNat : Nat) : Int) = n by omega] at this
  exact this
/-- what is laid is taken as it was -/
theorem lay_take {e : Ev} (h : evB e = true) : take (lay e).1 = (e, 0) := by
  have key : guess (lay e).1 = e := by
    rw [lay_yes h]
    simp only
    rcases evB_kd h with hk | hk | hk
    · rw [evB_1 hk] at h
      simp only [Bool.and_eq_true, decide_eq_true_eq, bareN, beq_iff_eq] at h
      obtain ⟨hl, ⟨⟨h1, h2⟩, h3⟩, h4⟩ := h
      have t0 : takeNum (be 1 e.kd.toNat ++ tailL e) 0 1 = (e.kd, 1, 0) := by have := take_be1 (p := []) (q := tailL e) (n := e.kd) (by omega) (by omega); simpa using this
      have t1 : takeText (be 1 e.kd.toNat ++ tailL e) 1 = (e.ln, (1 : Int) + (be 2 e.ln.length ++ e.ln).length, 0) := by
        rw [tail_1 hk]
        have := takeText_at (be 1 e.kd.toNat) [] e.ln (by omega)
        simpa [be_length] using this
      rw [guess_1 (by rw [t0]; exact hk), t1]
      cases e
      simp_all
    · rw [evB_2 hk] at h
      simp only [Bool.and_eq_true, List.isEmpty_iff, bareN, beq_iff_eq] at h
      obtain ⟨hl, ⟨⟨h1, h2⟩, h3⟩, h4⟩ := h
      have t0 : takeNum (be 1 e.kd.toNat ++ tailL e) 0 1 = (e.kd, 1, 0) := by have := take_be1 (p := []) (q := tailL e) (n := e.kd) (by omega) (by omega); simpa using this
      rw [guess_0 (by rw [t0]; simp only; omega) (by rw [t0]; simp only; omega), t0]
      cases e
      simp_all
    · rw [evB_3 hk] at h
      simp only [Bool.and_eq_true, List.isEmpty_iff] at h
      obtain ⟨hl, hn⟩ := h
      obtain ⟨b1, b2, b3, b4, b5, b6, b7, b8⟩ := noteB_bd hn
      have t0 : takeNum (be 1 e.kd.toNat ++ tailL e) 0 1 = (e.kd, 1, 0) := by have := take_be1 (p := []) (q := tailL e) (n := e.kd) (by omega) (by omega); simpa using this
      have t1 : takeNum (be 1 e.kd.toNat ++ tailL e) 1 1 = (e.nk, 2, 0) := by
        rw [tail_3 hk]
        have := take_be1 (p := be 1 e.kd.toNat) (q := be 1 e.nn.toNat ++ (be 4 e.nj.toNat ++ be 4 e.ne.toNat)) (n := e.nk) (by omega) (by omega)
        simpa [be_length] using this
      have t2 : takeNum (be 1 e.kd.toNat ++ tailL e) 2 1 = (e.nn, 3, 0) := by
        rw [tail_3 hk]
        have := take_be1 (p := be 1 e.kd.toNat ++ be 1 e.nk.toNat) (q := be 4 e.nj.toNat ++ be 4 e.ne.toNat) (n := e.nn) (by omega) (by omega)
        simpa [be_length] using this
      have t3 : takeNum (be 1 e.kd.toNat ++ tailL e) 3 4 = (e.nj, 7, 0) := by
        rw [tail_3 hk]
        have := take_be4 (p := be 1 e.kd.toNat ++ be 1 e.nk.toNat ++ be 1 e.nn.toNat) (q := be 4 e.ne.toNat) (n := e.nj) (by omega) (by omega)
        simpa [be_length] using this
      have t4 : takeNum (be 1 e.kd.toNat ++ tailL e) 7 4 = (e.ne, 11, 0) := by
        rw [tail_3 hk]
        have := take_be4 (p := be 1 e.kd.toNat ++ be 1 e.nk.toNat ++ be 1 e.nn.toNat ++ be 4 e.nj.toNat) (q := []) (n := e.ne) (by omega) (by omega)
        simpa [be_length] using this
      rw [guess_3 (by rw [t0]; exact hk), t1, t2, t3, t4]
      cases e
      simp_all
  rw [take_yes, key]
  · rw [key, lay_yes h]
  · rw [key]
theorem lay_len {e : Ev} : (lay e).1.length ≤ 1003 := by
  cases h : evB e
  · rw [lay_no h]; simp
  · rw [lay_yes h]
    rcases evB_kd h with hk | hk | hk
    · rw [evB_1 hk] at h
      simp only [Bool.and_eq_true, decide_eq_true_eq] at h
      rw [tail_1 hk]
      simp [be_length]
      omega
    · rw [tail_2 hk]; simp [be_length]
    · rw [tail_3 hk]; simp [be_length]
/-- what is framed is read again, wherever it stands -/
theorem put_get {life seq : Int} {body p q : List UInt8} (hf : (fitB life 4 && fitB seq 4) = true) (hb : ¬ 200000 < body.length) :
    get (p ++ ((put life seq body).1 ++ q)) (p.length : Int) = (life, seq, body, (p.length : Int) + (put life seq body).1.length, 0) := by
  simp only [Bool.and_eq_true, fit4] at hf
  rw [put_ok (by simp [fit4, hf]) hb]
  simp only
  rw [get_in (by simp), List.drop_left']
  · have hh : hd life seq body ++ sumL (hd life seq body) ++ q = 77 :: (be 4 body.length ++ (be 4 life.toNat ++ (be 4 seq.toNat ++ (body ++ (sumL (hd life seq body) ++ q))))) := by
      simp [hd, four]
    have nb : n4 (hd life seq body ++ sumL (hd life seq body) ++ q) 1 = body.length := by
      rw [hh]
      unfold n4
      rw [List.drop_succ_cons, List.drop_zero, List.take_left' (be_length _ _), num_be _ _ (by simp; omega)]
    have n5 : n4 (hd life seq body ++ sumL (hd life seq body) ++ q) 5 = life.toNat := by
      rw [hh]
      unfold n4
      rw [List.drop_succ_cons, List.drop_left' (be_length _ _), List.take_left' (be_length _ _), num_be _ _ (by simp; omega)]
    have n9 : n4 (hd life seq body ++ sumL (hd life seq body) ++ q) 9 = seq.toNat := by
      rw [hh]
      unfold n4
      rw [List.drop_succ_cons, ← List.append_assoc, List.drop_left' (by simp [be_length]), List.take_left' (be_length _ _), num_be _ _ (by simp; omega)]
    have hsum := Sums.more_bd 1 (hd life seq body)
    have n13 : n4 (hd life seq body ++ sumL (hd life seq body) ++ q) (13 + body.length) = (Sums.more 1 (hd life seq body)).toNat := by
      unfold n4
      rw [List.append_assoc, List.drop_left' (by rw [hd_len]), List.take_left' (sumL_len _)]
      unfold sumL
      rw [num_be _ _ (by omega)]
    have ht : (hd life seq body ++ sumL (hd life seq body) ++ q).take (13 + body.length) = hd life seq body := by
      rw [List.append_assoc, List.take_left' (by rw [hd_len])]
    rw [getT_ok]
    · rw [nb, n5, n9]
      refine Prod.ext (by simp only; omega) (Prod.ext (by simp only; omega) (Prod.ext ?_ (Prod.ext ?_ rfl)))
      · rw [hh]
        simp only
        rw [List.drop_succ_cons, ← List.append_assoc, ← List.append_assoc, List.drop_left' (by simp [be_length]), List.take_left' rfl]
      · simp only [List.length_append, hd_len, sumL_len]
        omega
    · simp [hd_len]; omega
    · rw [hh]; rfl
    · rw [nb]; omega
    · rw [nb]; simp [hd_len, sumL_len]; omega
    · rw [nb, ht, n13]; omega
  · rfl
end Go.Proofs.Ytdhnegcblnpmfaa.Frm

namespace Go.Proofs.Ytdhnegcblnpmfaa.Jrn
open Pack Frm
set_option linter.unusedVariables false
set_option linter.unusedSimpArgs false

abbrev blk (l : List (List UInt8)) (p : Nat) : List UInt8 := l.getD p []
section
variable {l : List (List UInt8)} {a e f part : Nat} {id : Int} {acc : List UInt8} {b : Bk}
theorem takeF_end (h : 255 ≤ part ∨ e ≤ a + part) : takeF l a e f part id acc = none := by
  cases f with
  | zero => rfl
  | succ f => rw [takeF, if_pos h]
theorem takeF_none (h : readB (blk l (a + part)) = none) : takeF l a e f part id acc = none := by
  cases f with
  | zero => rfl
  | succ f =>
    rw [takeF]
    split
    · rfl
    · rw [h]
theorem takeF_bad (h : readB (blk l (a + part)) = some b) (hg : goesOn b part (if part = 0 then b.stamp else id) = false) : takeF l a e f part id acc = none := by
  cases f with
  | zero => rfl
  | succ f =>
    rw [takeF]
    split
    · rfl
    · rw [h]
      simp only
      rw [if_pos hg]
def endR (a part : Nat) (s : List UInt8) : Option Rc := if (get s 0).2.2.2.2 = 0 ∧ (get s 0).2.2.2.1 = s.length then some ⟨(get s 0).1, (get s 0).2.1, (get s 0).2.2.1, a + part + 1⟩ else none
theorem takeF_last (h1 : part < 255) (h2 : a + part < e) (h : readB (blk l (a + part)) = some b) (hg : goesOn b part (if part = 0 then b.stamp else id) = true) (hl : b.last = true) : takeF l a e (f + 1) part id acc = endR a part (acc ++ b.bytes) := by
  rw [takeF, if_neg (by omega), h]
  simp only
  rw [if_neg (by simp [hg]), if_pos hl]
  rfl
theorem takeF_more (h1 : part < 255) (h2 : a + part < e) (h : readB (blk l (a + part)) = some b) (hg : goesOn b part (if part = 0 then b.stamp else id) = true) (hl : b.last = false) : takeF l a e (f + 1) part id acc = takeF l a e f (part + 1) (if part = 0 then b.stamp else id) (acc ++ b.bytes) := by
  rw [takeF, if_neg (by omega), h]
  simp only
  rw [if_neg (by simp [hg]), if_neg (by simp [hl])]
end
/-- what is taken lies between its beginning and the block behind it, and hangs on these blocks alone -/
theorem takeF_local {l : List (List UInt8)} {a e : Nat} : ∀ f part id acc r, takeF l a e f part id acc = some r → a + part < r.behind ∧ r.behind ≤ e ∧ ∀ l', (∀ q, a + part ≤ q → q < r.behind → blk l' q = blk l q) → takeF l' a e f part id acc = some r := by
  intro f
  induction f with
  | zero => intro part id acc r h; cases h
  | succ f ih =>
    intro part id acc r h
    by_cases h1 : 255 ≤ part ∨ e ≤ a + part
    · rw [takeF_end h1] at h; cases h
    have h1a : part < 255 := by omega
    have h1b : a + part < e := by omega
    cases hb : readB (blk l (a + part)) with
    | none => rw [takeF_none hb] at h; cases h
    | some b =>
      cases hg : goesOn b part (if part = 0 then b.stamp else id) with
      | false => rw [takeF_bad hb hg] at h; cases h
      | true =>
        cases hl : b.last with
        | true =>
          rw [takeF_last h1a h1b hb hg hl] at h
          have hbe : r.behind = a + part + 1 := by
            unfold endR at h
            split at h
            · injection h with h; rw [← h]
            · cases h
          refine ⟨by omega, by omega, fun l' hl' => ?_⟩
          have hb' : readB (blk l' (a + part)) = some b := by rw [hl' _ (Nat.le_refl _) (by omega)]; exact hb
          rw [takeF_last h1a h1b hb' hg hl]
          exact h
        | false =>
          rw [takeF_more h1a h1b hb hg hl] at h
          obtain ⟨k1, k2, k3⟩ := ih _ _ _ _ h
          refine ⟨by omega, k2, fun l' hl' => ?_⟩
          have hb' : readB (blk l' (a + part)) = some b := by rw [hl' _ (Nat.le_refl _) (by omega)]; exact hb
          rw [takeF_more h1a h1b hb' hg hl]
          exact k3 l' fun q q1 q2 => hl' q (by omega) q2
theorem takeF_same {l l' : List (List UInt8)} {a e : Nat} : ∀ f part id acc, (∀ q, a + part ≤ q → q < e → blk l' q = blk l q) → takeF l' a e f part id acc = takeF l a e f part id acc := by
  intro f
  induction f with
  | zero => intro part id acc h; rfl
  | succ f ih =>
    intro part id acc h
    by_cases h1 : 255 ≤ part ∨ e ≤ a + part
    · rw [takeF_end h1, takeF_end h1]
    have h1a : part < 255 := by omega
    have h1b : a + part < e := by omega
    have hq := h _ (Nat.le_refl _) h1b
    cases hb : readB (blk l (a + part)) with
    | none => rw [takeF_none hb, takeF_none (by rw [hq]; exact hb)]
    | some b =>
      have hb' : readB (blk l' (a + part)) = some b := by rw [hq]; exact hb
      cases hg : goesOn b part (if part = 0 then b.stamp else id) with
      | false => rw [takeF_bad hb hg, takeF_bad hb' hg]
      | true =>
        cases hl : b.last with
        | true => rw [takeF_last h1a h1b hb hg hl, takeF_last h1a h1b hb' hg hl]
        | false =>
          rw [takeF_more h1a h1b hb hg hl, takeF_more h1a h1b hb' hg hl]
          exact ih _ _ _ fun q q1 q2 => h q (by omega) q2
section
variable {l l' : List (List UInt8)} {a e : Nat} {r : Rc}
theorem take_local (h : takeR l a e = some r) : a < r.behind ∧ r.behind ≤ e ∧ ∀ l', (∀ q, a ≤ q → q < r.behind → blk l' q = blk l q) → takeR l' a e = some r := takeF_local 256 0 0 [] r h
theorem take_same (h : ∀ q, a ≤ q → q < e → blk l' q = blk l q) : takeR l' a e = takeR l a e := takeF_same 256 0 0 [] h
theorem take_none (h : readB (blk l a) = none) : takeR l a e = none := takeF_none (part := 0) h
theorem take_end (h : e ≤ a) : takeR l a e = none := takeF_end (.inr h)
theorem take_part {b : Bk} (h : readB (blk l a) = some b) (hp : b.part ≠ 0) : takeR l a e = none := by
  refine takeF_bad (part := 0) h ?_
  have : (b.part == (0 : Int)) = false := by simpa using hp
  simp [goesOn, this]
end
/-- the part i of a record -/
def pb (st : Int) (fr : List UInt8) (i : Nat) : Bk := ⟨st + i, i, st, decide (fr.length ≤ 240 * (i + 1)), (fr.drop (240 * i)).take 240⟩
/-- how many blocks a frame takes -/
def parts (fr : List UInt8) : Nat := (fr.length + 239) / 240
theorem pb_fine {st : Int} {fr : List UInt8} {i : Nat} (h0 : 0 ≤ st) (h1 : st + 255 < 4294967296) (hi : i < 255) : (pb st fr i).Fine :=
  ⟨by simp [pb]; omega, by simp [pb]; omega, by simp [pb], by simp [pb]; omega, by simp [pb]; omega, by simp [pb]; omega, by simp [pb]; omega⟩
theorem pb_read {st : Int} {fr : List UInt8} {i : Nat} (h0 : 1 ≤ st) (h1 : st + 255 < 4294967296) (hi : i < 255) : readB (writeB (pb st fr i)) = some (pb st fr i) := read_write (pb_fine (by omega) h1 hi) (by simp [pb]; omega)
theorem pb_goes {st : Int} {fr : List UInt8} {i : Nat} (hi : i < parts fr) : goesOn (pb st fr i) i (if i = 0 then (pb st fr i).stamp else st) = true := by
  have e1 : (if i = 0 then (pb st fr i).stamp else st) = st := by
    split
    · next h => subst h; simp [pb]
    · rfl
  rw [e1]
  unfold goesOn pb parts at *
  simp only [BEq.rfl, Bool.true_and, Bool.or_eq_true, decide_eq_true_eq, beq_iff_eq, List.length_take, List.length_drop]
  omega
theorem pb_more {st : Int} {fr : List UInt8} {i : Nat} : fr.take (240 * i) ++ (pb st fr i).bytes = fr.take (240 * (i + 1)) := by
  rw [show 240 * (i + 1) = 240 * i + 240 by omega, List.take_add]
  rfl
/-- a record that stands whole is taken -/
theorem take_whole {l : List (List UInt8)} {a e : Nat} {st life seq : Int} {body fr : List UInt8} (h0 : 1 ≤ st) (h1 : st + 255 < 4294967296) (hk : parts fr ≤ 255) (hp : 0 < fr.length) (he : a + parts fr ≤ e)
    (hw : ∀ i, i < parts fr → blk l (a + i) = writeB (pb st fr i)) (hg : get fr 0 = (life, seq, body, (fr.length : Int), 0)) : takeR l a e = some ⟨life, seq, body, a + parts fr⟩ := by
  have key : ∀ d i, i + d + 1 = parts fr → ∀ f, d < f → ∀ id, (i ≠ 0 → id = st) → takeF l a e f i id (fr.take (240 * i)) = some ⟨life, seq, body, a + parts fr⟩ := by
    intro d
    induction d with
    | zero =>
      intro i hi f hf id hid
      obtain ⟨f, rfl⟩ : ∃ g, f = g + 1 := ⟨f - 1, by omega⟩
      have hb := pb_read (st := st) (fr := fr) h0 h1 (i := i) (by omega)
      rw [← hw i (by omega)] at hb
      have hgo : goesOn (pb st fr i) i (if i = 0 then (pb st fr i).stamp else id) = true := by
        rw [← pb_goes (st := st) (fr := fr) (i := i) (by omega)]
        congr 1
        split
        · rfl
        · next h => exact hid h
      have hlen : fr.length ≤ 240 * (i + 1) := by unfold parts at hi; omega
      rw [takeF_last (by omega) (by omega) hb hgo (by simp [pb, hlen]), pb_more, List.take_of_length_le hlen]
      unfold endR
      rw [hg, if_pos ⟨rfl, rfl⟩]
      simp only [Option.some.injEq, Rc.mk.injEq, true_and]
      omega
    | succ d ih =>
      intro i hi f hf id hid
      obtain ⟨f, rfl⟩ : ∃ g, f = g + 1 := ⟨f - 1, by omega⟩
      have hb := pb_read (st := st) (fr := fr) h0 h1 (i := i) (by omega)
      rw [← hw i (by omega)] at hb
      have hgo : goesOn (pb st fr i) i (if i = 0 then (pb st fr i).stamp else id) = true := by
        rw [← pb_goes (st := st) (fr := fr) (i := i) (by omega)]
        congr 1
        split
        · rfl
        · next h => exact hid h
      have hlen : ¬ fr.length ≤ 240 * (i + 1) := by unfold parts at hi; omega
      rw [takeF_more (by omega) (by omega) hb hgo (by simp [pb]; omega), pb_more]
      refine ih (i + 1) (by omega) f (by omega) _ fun _ => ?_
      split
      · next h => subst h; simp [pb]
      · next h => exact hid h
  have hpos : 0 < parts fr := by unfold parts; omega
  have := key (parts fr - 1) 0 (by omega) 256 (by omega) 0 (by simp)
  simpa [takeR] using this
/-- a record of which some blocks stand, and the next one is no part of it, is none -/
theorem take_torn {l : List (List UInt8)} {a e m : Nat} {st : Int} {fr : List UInt8} (h0 : 1 ≤ st) (h1 : st + 255 < 4294967296) (hk : parts fr ≤ 255) (hm : m < parts fr) (hm0 : 0 < m)
    (hw : ∀ i, i < m → blk l (a + i) = writeB (pb st fr i)) (hbad : ∀ b, readB (blk l (a + m)) = some b → b.id ≠ st) : takeR l a e = none := by
  have key : ∀ d i, i + d = m → ∀ f id acc, (i ≠ 0 → id = st) → takeF l a e f i id acc = none := by
    intro d
    induction d with
    | zero =>
      intro i hi f id acc hid
      obtain rfl : i = m := by omega
      cases hb : readB (blk l (a + i)) with
      | none => exact takeF_none hb
      | some b =>
        refine takeF_bad hb ?_
        have hid' := hid (by omega)
        subst hid'
        rw [if_neg (by omega)]
        have h2 : (b.id == id) = false := by simpa using hbad b hb
        simp [goesOn, h2]
    | succ d ih =>
      intro i hi f id acc hid
      cases f with
      | zero => rfl
      | succ f =>
        have hb := pb_read (st := st) (fr := fr) h0 h1 (i := i) (by omega)
        rw [← hw i (by omega)] at hb
        by_cases hend : 255 ≤ i ∨ e ≤ a + i
        · exact takeF_end hend
        have hgo : goesOn (pb st fr i) i (if i = 0 then (pb st fr i).stamp else id) = true := by
          rw [← pb_goes (st := st) (fr := fr) (i := i) (by omega)]
          congr 1
          split
          · rfl
          · next h => exact hid h
        have hlen : ¬ fr.length ≤ 240 * (i + 1) := by unfold parts at hm; omega
        rw [takeF_more (by omega) (by omega) hb hgo (by simp [pb]; omega)]
        refine ih (i + 1) (by omega) f _ _ fun _ => ?_
        split
        · next h => subst h; simp [pb]
        · next h => exact hid h
  exact key m 0 (by omega) 256 0 [] (by simp)
end Go.Proofs.Ytdhnegcblnpmfaa.Jrn
