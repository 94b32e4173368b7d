/-
  Contract: musterref24.Cut.
-/
import Derived.Test.YtgmoakbmomaffaaFrameCut2
namespace Go.Proofs.Ytgmoakbmomaffaa.FrameW
open Go.RowKit Mem Frm PackW
set_option linter.unusedVariables false
set_option linter.unusedSimpArgs false

def RCutRel (s : ByteArray) (w : World) (X Y : Value) (wr : World) : Prop :=
  ∃ (k a : Nat) (A : Option Addr) (c : Nat), X = .slice A k c ∧ Y = .int .i64 a ∧ Hid (At s.data.toList k a) ∧ TxO wr w.heap.size A k c ((bods s.data.toList).take k) ∧ Below w.heap.size w wr
set_option maxRecDepth 100000 in
set_option maxHeartbeats 2000000 in
theorem rcut_any (s : ByteArray) (w : World) (hs : s.size ≤ 1000000) : Calls Try.prog 43 #[.string s] w (CutPost s w) := by
  have hsl : s.data.toList.length = s.size := by simp
  have hm : s.size ≤ maxLen := by unfold maxLen; omega
  have HSl := Lib.hid hsl
  have HM := Lib.hid hm
  have hbl : (bods s.data.toList).length = (Frm.all s.data.toList).length := by simp [bods]
  have HBl := Lib.hid hbl
  clear hsl hm hbl
  go_enter Try.func43, Try.ntmps43
  go_wp2_with fail
  go_loopw [4, 5] (fun X Y wr => RCutRel s w X Y wr) (fun _ Y _ => s.size + 1 - (intOf Y).toNat)
  case atStart => exact ⟨0, 0, none, 0, rfl, rfl, Lib.hid (at_start _), SOwn.nil _ _ _ _, Below.refl _ _⟩
  case round =>
    obtain ⟨k, a, A, c, rfl, rfl, HAt, hown, hbel⟩ := hrel
    have hto : a ≤ s.size := by rw [← HSl.out]; exact HAt.out.to
    have hto2 : decide ((a : Int) ≤ (s.size : Int)) = true := decide_eq_true (by omega)
    have hup := HAt.out.up
    have HG := Lib.hid (rget_any s (a : Int) wr HM.out)
    have hbd := get_bd s.data.toList (a : Int)
    have HStep := Lib.hid fun h0 => at_step HAt.out h0
    have HEnd := Lib.hid fun h0 => at_end HAt.out h0
    have HOn := Lib.hid fun h0 => get_on (s := s.data.toList) (a := a) h0
    obtain ⟨r, hr⟩ : ∃ r, r = get s.data.toList (a : Int) := ⟨_, rfl⟩
    rw [← hr] at HG HStep HEnd hbd HOn
    obtain ⟨r1, r2, r3, r4, r5⟩ := r
    have HOwn := Lib.hid hown
    clear hr hown
    by_cases h5 : r5 = 0
    · obtain ⟨hlt, hx, hnext⟩ := HStep.out h5
      obtain ⟨on1, on2⟩ := HOn.out h5
      subst h5
      simp only at hx hnext on1 on2 hbd
      rw [HSl.out] at on2
      obtain ⟨t, rfl⟩ : ∃ t : Nat, r4 = (t : Int) := ⟨r4.toNat, by omega⟩
      rw [Int.toNat_natCast] at hnext
      have HTk : Hid ((bods s.data.toList).take (k + 1) = (bods s.data.toList).take k ++ [r3]) := take_snoc_some (by unfold bods; rw [List.getElem?_map, hx]; rfl)
      have HNx := Lib.hid hnext
      clear hx hnext HStep HEnd HOn
      go_wp2_with fail
      refine HG.out.mono ?_
      rintro e w1 ⟨rfl, b1⟩
      obtain ⟨U, hU⟩ : ∃ U, U = w1.alloc (.cells #[.string (str r3)] 9) := ⟨_, rfl⟩
      have bU : Below w1.heap.size w1 U := by rw [hU]; exact (Below.refl _ _).alloc (Nat.le_refl _) _
      have sU : Lst strRow 1 U (some ⟨w1.heap.size, 0, none⟩) 1 [r3] := by rw [hU]; exact lit_t w1 r3
      have b1U := below_step b1 bU
      obtain ⟨A3, c3, w3, hrun, o3, b3', hfr, hA3⟩ := app_s layX (P := Try.prog) U w.heap.size 22 22 9 _ 16 Try.underlying22 strInfo rfl A k c _ (HOwn.out.below b1U) (some ⟨w1.heap.size, 0, none⟩) 1 1 [r3] sU (by simp only [maxLen]; omega) (by omega) (Nat.le_trans hbel.size b1U.size)
      have HR := Lib.hid hrun
      rw [hU] at HR
      have HO3 := Lib.hid o3
      have hb0 : Below w.heap.size w w3 := (below_step hbel b1U).trans b3'
      clear hrun o3 hfr hA3 hU sU
      go_wp2_with (at_builtin; refine wpList_app2 rfl _ _ rfl rfl rfl HR.out ?_)
      exact ⟨⟨k + 1, t, A3, c3, rfl, rfl, HNx, by rw [HTk.out]; exact HO3.out, hb0⟩, by simp [intOf]; omega⟩
    · obtain ⟨hke, hlast⟩ := HEnd.out h5
      have e5 : (r5 != 0) = true := by simpa using h5
      have HKe := Lib.hid hke
      have HLa := Lib.hid hlast
      clear h5 hke hlast HStep HEnd HOn
      go_wp2_with fail
      refine HG.out.mono ?_
      rintro e w1 ⟨rfl, b1⟩
      go_wp2_with fail
      go_ret2
      have hk : k = (bods s.data.toList).length := by rw [HBl.out]; exact HKe.out
      have own := HOwn.out.below b1
      rw [List.take_of_length_le (by omega)] at own
      exact ⟨A, c, by rw [← hk, HLa.out]; rfl, by rw [← hk]; exact TxO.txs own, below_step hbel b1⟩
end Go.Proofs.Ytgmoakbmomaffaa.FrameW
