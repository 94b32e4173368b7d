/-
  awake of layer 33.
-/
import Derived.Test.YtdhnegcblnpmfaaStore4
namespace Go.Proofs.Ytdhnegcblnpmfaa.StorW
open Go.RowKit Mem Stor
set_option linter.unusedVariables false

theorem arm_is (e : Int) (base g : Nat) (s : Sto) (a k : Int) (w : World) (h : Is w base g s) (hok : s.Ok) (he : (arm s a k).2 = e) :
    Calls Try.prog 16 #[.pointer (some ⟨g, 0, none⟩), .int .i64 a, .int .i64 k] w (IsPost base g (arm s a k).1 e w) := by rw [← he]; exact arm_any base g s a k w h hok
theorem write_is (e : Int) (base g : Nat) (s : Sto) (i : Int) (b : ByteArray) (w : World) (h : Is w base g s) (hok : s.Ok) (hw : s.wr < 1000000) (hb : b.size ≤ maxLen) (he : (write s i b.data.toList).2 = e) :
    Calls Try.prog 14 #[.pointer (some ⟨g, 0, none⟩), .int .i64 i, .string b] w (IsPost base g (write s i b.data.toList).1 e w) := by rw [← he]; exact write_any base g s i b w h hok hw hb
theorem read_is (r : List UInt8) (e : Int) (base g : Nat) (s : Sto) (i : Int) (w : World) (h : Is w base g s) (hok : s.Ok) (he : readS s i = (r, e)) :
    Calls Try.prog 26 #[.pointer (some ⟨g, 0, none⟩), .int .i64 i] w fun x w' => x = .returned (.tuple #[.string (str r), .int .i64 e]) ∧ w = w' := by
  have := read_any base g s i w h hok
  rw [he] at this
  exact this
theorem on_is (v : Bool) (base g : Nat) (s : Sto) (w : World) (h : Is w base g s) (hok : s.Ok) (he : (!s.off) = v) :
    Calls Try.prog 19 #[.pointer (some ⟨g, 0, none⟩)] w fun e w' => e = .returned (.bool v) ∧ w = w' := by rw [← he]; exact on_any base g s w h hok
theorem writes_is (v : Int) (base g : Nat) (s : Sto) (w : World) (h : Is w base g s) (hok : s.Ok) (he : s.wr = v) :
    Calls Try.prog 20 #[.pointer (some ⟨g, 0, none⟩)] w fun e w' => e = .returned (.int .i64 v) ∧ w = w' := by rw [← he]; exact writes_any base g s w h hok
theorem size_is (v : Int) (base g : Nat) (s : Sto) (w : World) (h : Is w base g s) (hok : s.Ok) (he : (s.bs.length : Int) = v) :
    Calls Try.prog 24 #[.pointer (some ⟨g, 0, none⟩)] w fun e w' => e = .returned (.int .i64 v) ∧ w = w' := by rw [← he]; exact size_any base g s w h hok

def a1 : Sto := (arm (new 2) 2 3).1
def a2 : Sto := (write a1 0 (wholeL [97, 98, 99, 100])).1
def a3 : Sto := (write a2 1 (wholeL [101, 102, 103, 104])).1
def a4 : Sto := power a3 true
def a5 : Sto := (write a4 2 (wholeL [])).1
theorem a1_ok : a1.Ok := arm_ok (new_ok 2 (by omega) (by omega)) _ _ (by omega)
theorem a2_ok : a2.Ok := write_ok a1_ok _ _
theorem a3_ok : a3.Ok := write_ok a2_ok _ _
theorem a4_ok : a4.Ok := power_ok a3_ok _
theorem a5_ok : a5.Ok := write_ok a4_ok _ _
theorem wh_size (l : List UInt8) (h : l.length ≤ 256) : (str (wholeL l)).size ≤ maxLen := by rw [str_size, wholeL_length _ h]; simp [maxLen]

def WholePost (r : List UInt8) (w : World) (e : Ending) (w' : World) : Prop := e = .returned (.string (str (wholeL r))) ∧ Below w.heap.size w w'
theorem whole_is (r : List UInt8) (w : World) (h : r.length ≤ 256) : Calls Try.prog 18 #[.string ⟨r.toArray⟩] w (WholePost r w) := whole_any ⟨r.toArray⟩ w (by simpa [ByteArray.size] using h)

set_option maxHeartbeats 2000000 in
set_option maxRecDepth 100000 in
theorem awake_any (w : World) : Calls Try.prog 12 #[] w fun e w' => e = .returned (.bool true) ∧ Below w.heap.size w w' := by
  go_enter Try.func12, Try.ntmps12
  go_wp2_with fail
  refine (new_any 2 w (by omega) (by omega)).mono ?_
  rintro e w1 ⟨g, rfl, h1, b1⟩
  go_wp2_with fail
  refine (arm_is 0 _ _ _ _ _ _ h1 (new_ok 2 (by omega) (by omega)) (by decide +kernel)).mono ?_
  rintro e w2 ⟨rfl, h2, hb2, _⟩
  change Is w2 _ _ a1 at h2
  have b2 := b1.trans hb2
  clear b1 hb2 h1
  go_wp2_with fail
  refine (whole_is [97, 98, 99, 100] _ (by simp)).mono ?_
  rintro e w3 ⟨rfl, hb3⟩
  have b3 := below_step b2 hb3
  have h3 := h2.below hb3
  clear b2 hb3 h2
  go_wp2_with fail
  refine (write_is 0 _ _ _ _ _ _ h3 a1_ok (by decide +kernel) (wh_size _ (by simp)) (by rw [str_data]; decide +kernel)).mono ?_
  rintro e w4 ⟨rfl, h4, hb4, _⟩
  rw [str_data] at h4
  change Is w4 _ _ a2 at h4
  have b4 := b3.trans hb4
  clear b3 hb4 h3
  go_wp2_with fail
  refine (whole_is [101, 102, 103, 104] _ (by simp)).mono ?_
  rintro e w5 ⟨rfl, hb5⟩
  have b5 := below_step b4 hb5
  have h5 := h4.below hb5
  clear b4 hb5 h4
  go_wp2_with fail
  refine (write_is 330 _ _ _ _ _ _ h5 a2_ok (by decide +kernel) (wh_size _ (by simp)) (by rw [str_data]; decide +kernel)).mono ?_
  rintro e w6 ⟨rfl, h6, hb6, _⟩
  rw [str_data] at h6
  change Is w6 _ _ a3 at h6
  have b6 := b5.trans hb6
  clear b5 hb6 h5
  go_wp2_with fail
  refine (read_is [] 330 _ _ _ _ _ h6 a3_ok (by decide +kernel)).mono ?_
  rintro e w7 ⟨rfl, rfl⟩
  go_wp2_with fail
  refine (on_is false _ _ _ _ h6 a3_ok (by decide +kernel)).mono ?_
  rintro e w7 ⟨rfl, rfl⟩
  go_wp2_with fail
  refine (boot_any _ _ _ _ h6 a3_ok).mono ?_
  rintro e w7 ⟨rfl, h7, hb7, _⟩
  change Is w7 _ _ a4 at h7
  have b7 := b6.trans hb7
  clear b6 hb7 h6
  go_wp2_with fail
  refine (read_is (wholeL [101, 102, 103]) 0 _ _ _ _ _ h7 a4_ok (by decide +kernel)).mono ?_
  rintro e w8 ⟨rfl, rfl⟩
  go_wp2_with fail
  refine (new_no _ _ (by omega)).mono ?_
  rintro e w8 ⟨rfl, rfl⟩
  go_wp2_with fail
  refine (whole_is [101, 102, 103] _ (by simp)).mono ?_
  rintro e w9 ⟨rfl, hb9⟩
  have b9 := below_step b7 hb9
  have h9 := h7.below hb9
  clear b7 hb9 h7
  go_wp2_with fail
  refine (size_is 2 _ _ _ _ h9 a4_ok (by decide +kernel)).mono ?_
  rintro e w8 ⟨rfl, rfl⟩
  go_wp2_with fail
  refine (writes_is 2 _ _ _ _ h9 a4_ok (by decide +kernel)).mono ?_
  rintro e w8 ⟨rfl, rfl⟩
  go_wp2_with fail
  refine (whole_is [] _ (by simp)).mono ?_
  rintro e w10 ⟨rfl, hb10⟩
  have b10 := below_step b9 hb10
  have h10 := h9.below hb10
  clear b9 hb10 h9
  go_wp2_with fail
  refine (write_is 331 _ _ _ _ _ _ h10 a4_ok (by decide +kernel) (wh_size _ (by simp)) (by rw [str_data]; decide +kernel)).mono ?_
  rintro e w11 ⟨rfl, h11, hb11, _⟩
  rw [str_data] at h11
  change Is w11 _ _ a5 at h11
  have b11 := b10.trans hb11
  clear b10 hb11 h10
  go_wp2_with fail
  refine (write_is 2 _ _ _ _ _ _ h11 a5_ok (by decide +kernel) (by simp [maxLen]; decide) (by decide +kernel)).mono ?_
  rintro e w12 ⟨rfl, h12, hb12, _⟩
  go_wp2_with fail
  go_ret
  exact ⟨rfl, b11.trans hb12⟩
end Go.Proofs.Ytdhnegcblnpmfaa.StorW
