/-
  Contracts of muster/store: New (refused), Image; and whole of the law's package.
-/
import Derived.Test.YtdhnegcblnpmfaaStore3
namespace Go.Proofs.Ytdhnegcblnpmfaa.StorW
open Go.RowKit Mem Stor
set_option linter.unusedVariables false

theorem new_no (n : Int) (w : World) (h : n < 1 ∨ 400 < n) :
    Calls Try.prog 13 #[.int .i64 n] w fun e w' => e = .returned (.tuple #[.pointer none, .int .i64 2]) ∧ w = w' := by
  by_cases h1 : n < 1
  all_goals
    go_enter Try.func13, Try.ntmps13
    go_wp2_with fail
    go_ret2
    exact ⟨rfl, rfl⟩

theorem strInfo : (Try.prog.info? 9).map (fun i => (i.zero, i.size, i.bytes)) = some (some (.string ByteArray.empty), 1, 16) := by kernel_rfl
/-- texts as cells -/
def sv (l : List (List UInt8)) : List Value := l.map fun x => .string (str x)
theorem sv_length (l : List (List UInt8)) : (sv l).length = l.length := by simp [sv]
theorem sv_snoc (l : List (List UInt8)) (x : List UInt8) : sv (l ++ [x]) = sv l ++ [.string (str x)] := by simp [sv]

theorem nil_cap {W : World} {base : Nat} {e : TypeId} {size : Nat} {A : Option Addr} {n c : Nat} {xs : List Value} (h : W.ownsRow base e size (.slice A n c) n xs) : A = none → c = 0 := by
  rcases h.2 with ⟨hv, h0⟩ | ⟨g, cap, cur, hv, _⟩
  · injection hv with _ _ hc; exact fun _ => hc
  · injection hv with hA _ _; intro h'; rw [hA] at h'; cases h'
/-- strings of the call's own stay where blocks of strings stay -/
theorem own_keep {w w' : World} {base size : Nat} {v : Value} {n : Nat} {xs : List Value} (h : w.ownsRow base 9 size v n xs) (hk : KeepS w w') : w'.ownsRow base 9 size v n xs := by
  refine ⟨h.1, ?_⟩
  rcases h.2 with h2 | ⟨g, cap, cur, hv, hg, hh, r⟩
  · exact .inl h2
  · exact .inr ⟨g, cap, cur, hv, hg, hk _ _ _ _ (by decide) (by decide) hh, r⟩
def ImgRel (w : World) (s : Sto) (o i : Value) (wr : World) : Prop :=
  ∃ (k : Nat) (A : Option Addr) (c : Nat), k ≤ s.bs.length ∧ i = .int .i64 k ∧ o = .slice A k c ∧ (A = none → c = 0) ∧ wr.ownsRow w.heap.size 9 1 (.slice A k c) k (sv (s.bs.take k)) ∧ Below w.heap.size w wr

def ImgPost (w : World) (l : List (List UInt8)) (x : Ending) (w' : World) : Prop := ∃ A c, x = .returned (.slice A l.length c) ∧ w'.ownsRow w.heap.size 9 1 (.slice A l.length c) l.length (sv l) ∧ Below w.heap.size w w'

set_option maxHeartbeats 1000000 in
set_option maxRecDepth 100000 in
theorem image_any (base g : Nat) (s : Sto) (w : World) (h : Is w base g s) (hok : s.Ok) :
    Calls Try.prog 17 #[.pointer (some ⟨g, 0, none⟩)] w (ImgPost w s.bs) := by
  obtain ⟨i0, hi, hz0, hz1, hz2⟩ := info_parts strInfo
  obtain ⟨hs, A, c, h⟩ := h
  have HM := Lib.hid (made_yes g A _ c s w h.blk hok.some_)
  obtain ⟨c0, c1, c2, c3, c4⟩ := blk_cells h.blk
  have h4 := hok.few
  go_enter Try.func17, Try.ntmps17
  go_wp2_with fail
  refine HM.out.mono ?_
  rintro e w1 ⟨rfl, rfl⟩
  go_wp2_with fail
  go_loopw [3, 14] (fun o i wr => ImgRel w s o i wr) (fun _ i _ => s.bs.length - (intOf i).toNat)
  case atStart => exact ⟨0, none, 0, by omega, rfl, rfl, fun _ => rfl, World.ownsRow_nil _ _ _ _, Below.refl _ _⟩
  case round =>
    obtain ⟨k, A1, cc1, hk, rfl, rfl, hcap, hown, hbel⟩ := hrel
    by_cases hlt : k < s.bs.length
    · obtain ⟨q, x, ob, rfl, hcq, hx, hob, hbx, hbk⟩ := (h.below hbel).row hlt
      have hobl : ob.length = 256 := hok.whole ob (List.mem_of_getElem? hob)
      have hback := (blk_byts hbk).back (P := Try.prog) 79 9 5 256 256 hobl.symm Try.underlying79 Try.underlying5 Try.underlying9
      change _ = Result.ok (Value.string (str ob)) wr at hback
      have hsz := hbel.size
      obtain ⟨A3, c3, W4, hrun, hown4, _, hb5, _⟩ := app_own (P := Try.prog) (wr.alloc (.cells #[.string (str ob)] 9)) w.heap.size 34 34 9 i0 _ 1 16 Try.underlying34 hi hz0 hz1 hz2 rfl (by omega) A1 _ cc1 _ (hown.alloc _) _ 1 1 _ (Rd.one wr (.string (str ob)) 9) (by simp) (by simp; rfl) (by simp [maxLen]; omega) (by omega) (by simp; omega)
      have HC := Lib.hid (nil_cap hown4)
      have HO : Hid (W4.ownsRow w.heap.size 9 1 (.slice A3 (k + 1) c3) (k + 1) (sv (s.bs.take (k + 1)))) := by
        show World.ownsRow _ _ _ _ _ _ _
        rw [take_snoc_some hob, sv_snoc]
        exact hown4
      have hb6 := (hbel.alloc hsz (.cells #[.string (str ob)] 9)).trans hb5
      have HR := Lib.hid hrun
      simp only [hv] at hcq
      clear hrun hb5 hown4 hob hx hok hown h hbk hcap
      go_wp2_with (at_builtin; refine wpList_app rfl _ _ rfl rfl rfl HR.out ?_)
      exact ⟨⟨k + 1, A3, c3, by omega, by go_num, rfl, HC.out, HO.out, hb6⟩, by simp [intOf]; omega⟩
    · obtain rfl : k = s.bs.length := by omega
      rw [List.take_length] at hown
      go_wp2_with fail
      go_ret
      exact ⟨A1, cc1, rfl, hown, hbel⟩

/-- a text, filled up with noughts -/
def wholeL (t : List UInt8) : List UInt8 := t ++ zeros.drop t.length
theorem wholeL_length (t : List UInt8) (h : t.length ≤ 256) : (wholeL t).length = 256 := by
  rw [wholeL, List.length_append, List.length_drop, zeros_length]; omega

set_option maxHeartbeats 1000000 in
set_option maxRecDepth 100000 in
theorem whole_any (t : ByteArray) (w : World) (h : t.size ≤ 256) :
    Calls Try.prog 18 #[.string t] w fun e w' => e = .returned (.string (str (wholeL t.data.toList))) ∧ Below w.heap.size w w' := by
  have hmk := make_blank
  obtain ⟨W', hcp, hnb, hoth, hsz, hbel⟩ := copy_blk (P := Try.prog) (Blk.new w 5 (bv zeros).toArray) zeros_length t h 79 9 5 Try.underlying79 byteSize
  have hcop := hcp 3
  have hwl : wholeL t.data.toList = t.data.toList ++ zeros.drop t.size := by rw [wholeL]; simp
  have hlen := wholeL_length t.data.toList (by simpa using h)
  have hback := (blk_byts hnb).back (P := Try.prog) 79 9 5 256 256 (by rw [← hwl]; exact hlen.symm) Try.underlying79 Try.underlying5 Try.underlying9
  rw [← hwl] at hback
  change _ = Result.ok (Value.string (str (wholeL t.data.toList))) W' at hback
  simp only [hv] at hcop
  have hbb := ((Below.refl w.heap.size w).alloc (Nat.le_refl _) (.cells (bv zeros).toArray 5)).trans (hbel w.heap.size (Nat.le_refl _))
  clear hcp hnb hoth hsz hbel hwl hlen
  obtain ⟨L, hL⟩ : ∃ L, L = wholeL t.data.toList := ⟨_, rfl⟩
  rw [← hL] at hback
  have HL := Lib.hid hL
  clear hL
  go_enter Try.func18, Try.ntmps18
  go_wp2_with fail
  go_ret
  exact ⟨by rw [← HL.out]; rfl, hbb⟩
end Go.Proofs.Ytdhnegcblnpmfaa.StorW
