/-
  Contracts of muster/fit: the closure of Best.
-/
import Derived.Test.YtmjjbodglbdadaaFit3
namespace Go.Proofs.Ytmjjbodglbdadaa.ProfW
open Go.RowKit Mem Prof
set_option linter.unusedVariables false

/-- an option: nodes, wall -/
def placeT (p : List Stp) (fr latest grace : Int) (a : Stp) : Int × Bool :=
  if askB a.2 a.1 = true ∧ grace ≤ 1000000 - a.2 then ((earl p fr (a.2 + grace) a.1).getD 0, (earl p fr (a.2 + grace) a.1).isSome && decide ((earl p fr (a.2 + grace) a.1).getD 0 ≤ latest)) else (0, false)
structure BBox (w : World) (bg bp bf bl : Nat) (A : Option Addr) (n c : Nat) (fr latest grace : Int) : Prop where
  g : Blk w bg 3 #[.int .i64 grace]
  p : Blk w bp 22 #[.slice A n c]
  f : Blk w bf 3 #[.int .i64 fr]
  l : Blk w bl 3 #[.int .i64 latest]
theorem BBox.below {w w' : World} {bg bp bf bl : Nat} {A : Option Addr} {n c : Nat} {fr latest grace : Int} (h : BBox w bg bp bf bl A n c fr latest grace) (hb : Below w.heap.size w w') : BBox w' bg bp bf bl A n c fr latest grace :=
  ⟨h.g.below hb h.g.lt, h.p.below hb h.p.lt, h.f.below hb h.f.lt, h.l.below hb h.l.lt⟩
def Ret2 (v : Int) (b : Bool) (w : World) (e : Ending) (w' : World) : Prop := e = .returned (.tuple #[.int .i64 v, .bool b]) ∧ Below w.heap.size w w'
set_option maxHeartbeats 1000000 in
set_option maxRecDepth 100000 in
theorem best1_any (bg bp bf bl : Nat) (A : Option Addr) (n c : Nat) (p : List Stp) (fr latest grace : Int) (a : Stp) (w : World) (h : Steps w A n p) (hn : n ≤ maxLen) (hb : BBox w bg bp bf bl A n c fr latest grace) (hg : 0 ≤ grace) :
    Calls Try.prog 45 #[.agg #[.int .i64 a.1, .int .i64 a.2], .pointer (some ⟨bg, 0, none⟩), .pointer (some ⟨bp, 0, none⟩), .pointer (some ⟨bf, 0, none⟩), .pointer (some ⟨bl, 0, none⟩)] w (Ret2 (placeT p fr latest grace a).1 (placeT p fr latest grace a).2 w) := by
  obtain ⟨V, hV⟩ : ∃ V, V = w.alloc (.cells #[.int .i64 a.1, .int .i64 a.2] 63) := ⟨_, rfl⟩
  have bV : Below w.heap.size w V := by rw [hV]; exact (Below.refl _ _).alloc (Nat.le_refl _) _
  have kx : Blk V w.heap.size 63 #[.int .i64 a.1, .int .i64 a.2] := by rw [hV]; exact Blk.new _ _ _
  have hbV := hb.below bV
  have HH := Lib.hid (h.below bV)
  have HV := Lib.hid hV
  have HAs := asks_any a.2 a.1
  have x0 : V.cell? ⟨w.heap.size, 0, none⟩ = some (.int .i64 a.1) := kx.cell 0
  have x1 : V.cell? ⟨w.heap.size, 1, none⟩ = some (.int .i64 a.2) := kx.cell 1
  have g0 : V.cell? ⟨bg, 0, none⟩ = some (.int .i64 grace) := hbV.g.cell 0
  have p0 : V.cell? ⟨bp, 0, none⟩ = some (.slice A n c) := hbV.p.cell 0
  have f0 : V.cell? ⟨bf, 0, none⟩ = some (.int .i64 fr) := hbV.f.cell 0
  have l0 : V.cell? ⟨bl, 0, none⟩ = some (.int .i64 latest) := hbV.l.cell 0
  clear h hb hV
  cases hak : askB a.2 a.1
  · rw [hak] at HAs
    have HA2 := Lib.hid HAs
    have HR : Hid (placeT p fr latest grace a = (0, false)) := by show _ = _; rw [placeT, if_neg (by simp [hak])]
    clear HAs hak
    go_enter Try.func45, Try.ntmps45
    go_wp2_with fail
    rw [← HV.out]
    refine (HA2.out _).mono ?_
    rintro e w1 ⟨rfl, rfl⟩
    go_wp2_with fail
    go_ret2
    rw [HR.out]
    exact ⟨rfl, bV⟩
  · rw [hak] at HAs
    have HA2 := Lib.hid HAs
    obtain ⟨q1, q2, q3, q4⟩ := ask_iff.1 hak
    by_cases hgr : grace ≤ 1000000 - a.2
    · obtain ⟨o, ho⟩ : ∃ o, o = earl p fr (a.2 + grace) a.1 := ⟨_, rfl⟩
      have HO := Lib.hid ho
      have HR : Hid (placeT p fr latest grace a = (o.getD 0, o.isSome && decide (o.getD 0 ≤ latest))) := by show _ = _; rw [placeT, if_pos ⟨hak, hgr⟩, ho]
      obtain ⟨v, hv⟩ : ∃ v, v = o.getD 0 := ⟨_, rfl⟩
      have HEV : Hid (earlV o = .tuple #[.int .i64 v, .bool o.isSome]) := by rw [hv]; rfl
      rw [← hv] at HR
      clear HAs hak ho hv
      cases hs : o.isSome
      · rw [hs] at HR HEV
        clear hs
        go_enter Try.func45, Try.ntmps45
        go_wp2_with fail
        rw [← HV.out]
        refine (HA2.out _).mono ?_
        rintro e w1 ⟨rfl, rfl⟩
        go_wp2_with fail
        refine (earl_any A n c p fr (a.2 + grace) a.1 V HH.out hn).mono ?_
        rw [← HO.out]
        rintro e w2 ⟨rfl, b2⟩
        rw [HEV.out]
        have l1 : w2.cell? ⟨bl, 0, none⟩ = some (.int .i64 latest) := (hbV.below b2).l.cell 0
        clear x0 x1 g0 p0 f0 l0
        go_wp2_with fail
        go_quiet (fail)
        go_wp2_with fail
        go_ret2
        rw [HR.out]
        exact ⟨rfl, below_drewN (below_step bV b2) _⟩
      · rw [hs] at HR HEV
        clear hs
        go_enter Try.func45, Try.ntmps45
        go_wp2_with fail
        rw [← HV.out]
        refine (HA2.out _).mono ?_
        rintro e w1 ⟨rfl, rfl⟩
        go_wp2_with fail
        refine (earl_any A n c p fr (a.2 + grace) a.1 V HH.out hn).mono ?_
        rw [← HO.out]
        rintro e w2 ⟨rfl, b2⟩
        rw [HEV.out]
        have l1 : w2.cell? ⟨bl, 0, none⟩ = some (.int .i64 latest) := (hbV.below b2).l.cell 0
        clear x0 x1 g0 p0 f0 l0
        go_wp2_with fail
        go_quiet (fail)
        go_wp2_with fail
        go_ret2
        rw [HR.out]
        exact ⟨rfl, below_drewN (below_step bV b2) _⟩
    · have HR : Hid (placeT p fr latest grace a = (0, false)) := by show _ = _; rw [placeT, if_neg (fun h => hgr h.2)]
      have hgr2 : 1000000 - a.2 < grace := by omega
      clear HAs hak hgr
      go_enter Try.func45, Try.ntmps45
      go_wp2_with fail
      rw [← HV.out]
      refine (HA2.out _).mono ?_
      rintro e w1 ⟨rfl, rfl⟩
      go_wp2_with fail
      go_ret2
      rw [HR.out]
      exact ⟨rfl, bV⟩
end Go.Proofs.Ytmjjbodglbdadaa.ProfW
