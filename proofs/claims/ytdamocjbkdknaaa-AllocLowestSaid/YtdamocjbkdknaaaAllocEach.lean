/-
  Contract of muster/alloc: Each (with its closure).
-/
import Derived.Test.YtdamocjbkdknaaaAllocNotes
namespace Go.Proofs.Ytdamocjbkdknaaa.FleetW
open Go.RowKit Mem Fleet
set_option linter.unusedVariables false
set_option linter.unusedSimpArgs false
set_option linter.unnecessarySimpa false

/-- an act done on each -/
def eachL (act job now : Int) : List Nd → List Int → List Nd × Int
  | l, [] => (l, 0)
  | l, n :: r => if (doT l n act job now).2 = 0 then eachL act job now (doT l n act job now).1 r else ([], (doT l n act job now).2)
def eachT (l : List Nd) (s : Nat) (act job now : Int) : List Nd × List Nt × Int :=
  if chk l = false then ([], [], 120) else
  if (eachL act job now l (nats (memL s))).2 = 0 then ((eachL act job now l (nats (memL s))).1, if sendsB act then notesT (eachL act job now l (nats (memL s))).1 (nats (memL s)) else [], 0) else ([], [], (eachL act job now l (nats (memL s))).2)
/-- all blocks but one stay -/
structure But (bl : Nat) (w w' : World) : Prop where
  size : w.heap.size ≤ w'.heap.size
  same : ∀ b, b < w.heap.size → b ≠ bl → w'.heap[b]? = w.heap[b]?
  low : Below bl w w'
theorem But.refl (bl : Nat) (w : World) : But bl w w := ⟨Nat.le_refl _, fun _ _ _ => rfl, Below.refl _ _⟩
theorem But.trans {bl : Nat} {a b c : World} (h : But bl a b) (k : But bl b c) : But bl a c := ⟨Nat.le_trans h.size k.size, fun x hx hn => (k.same x (Nat.lt_of_lt_of_le hx h.size) hn).trans (h.same x hx hn), h.low.trans k.low⟩
theorem But.blk {bl g : Nat} {w w' : World} {t : TypeId} {cs : Array Value} (h : But bl w w') (hb : Blk w g t cs) (hn : g ≠ bl) : Blk w' g t cs := (h.same g hb.lt hn).trans hb
theorem But.of_below {bl : Nat} {w w' : World} (h : Below w.heap.size w w') (hb : bl ≤ w.heap.size) : But bl w w' := ⟨h.size, fun b hb' _ => h.block b hb', h.mono hb⟩
theorem But.set {bl : Nat} {w : World} (i : Nat) (u : Value) : But bl w (w.setCell ⟨bl, i, none⟩ u) := ⟨by simp, fun b _ hn => Below.heap_setCell w _ u b hn, (Below.refl bl w).setCell (p := ⟨bl, i, none⟩) (Nat.le_refl _) u⟩
theorem But.cells {α : Type} {f : α → List Value} {k bl : Nat} {w w' : World} {A : Option Addr} {n : Nat} {l : List α} (h : But bl w w') (g : Lst f k w A n l) (hA : 0 < n → ∀ b off, A = some ⟨b, off, none⟩ → b ≠ bl) : Lst f k w' A n l := by
  refine ⟨Cells.len g, Cells.each g, fun hn => ?_⟩
  obtain ⟨b, off, e, hlt, hc⟩ := Cells.at_ g hn
  exact ⟨b, off, e, Nat.lt_of_lt_of_le hlt h.size, fun i r hr j v hv => (World.cell?_of_block (a := ⟨b, off + i * k + j, none⟩) (h.same b hlt (hA hn b off e))).trans (hc i r hr j v hv)⟩
def E1Post (bl : Nat) (r : List Nd × Int) (w : World) (e : Ending) (w' : World) : Prop :=
  e = .returned (.int .i64 r.2) ∧ But bl w w' ∧ (r.2 = 0 → ∃ A c, Blk w' bl 22 #[.slice A r.1.length c] ∧ Nds w' A r.1.length r.1 ∧ (0 < r.1.length → ∀ b off, A = some ⟨b, off, none⟩ → b ≠ bl) ∧ (A = none → c = 0))
set_option maxHeartbeats 2000000 in
theorem each1_any (bl ba bj bn : Nat) (A : Option Addr) (n c : Nat) (l : List Nd) (m act job now : Int) (w : World) (kl : Blk w bl 22 #[.slice A n c]) (ka : Blk w ba 3 #[.int .i64 act]) (kj : Blk w bj 3 #[.int .i64 job]) (kn : Blk w bn 3 #[.int .i64 now])
    (h : Nds w A n l) (hn : n ≤ maxLen) (hA : A = none → c = 0) :
    Calls Try.prog 61 #[.int .i64 m, .pointer (some ⟨bl, 0, none⟩), .pointer (some ⟨ba, 0, none⟩), .pointer (some ⟨bj, 0, none⟩), .pointer (some ⟨bn, 0, none⟩)] w (E1Post bl (doT l m act job now) w) := by
  have hlen := h.len
  subst hlen
  have HDo := Lib.hid (do_any A l.length c l m act job now w h hn hA)
  have x0 := blk1 kl
  have x1 := blk1 ka
  have x2 := blk1 kj
  have x3 := blk1 kn
  have hbl := kl.lt
  obtain ⟨r, hr⟩ : ∃ r, r = doT l m act job now := ⟨_, rfl⟩
  rw [← hr] at HDo ⊢
  have HKl := Lib.hid kl
  clear hr h hA kl ka kj kn
  go_enter Try.func61, Try.ntmps61
  go_wp2_with fail
  refine HDo.out.mono ?_
  rintro e w1 ⟨A1, c1, rfl, o1, b1⟩
  have k1 := HKl.out.below b1 hbl
  have y0 := blk1 k1
  have g0 := k1.frozen 0
  have HK1 := Lib.hid k1
  have HO1 := Lib.hid o1
  have hbl1 : bl ≤ w.heap.size := Nat.le_of_lt hbl
  clear k1 o1 x0 x1 x2 x3
  by_cases he : r.2 = 0
  · have e1 : (r.2 == 0) = true := by simp [he]
    clear he
    go_wp2_with fail
    go_ret
    have hne : 0 < r.1.length → ∀ b off, A1 = some ⟨b, off, none⟩ → b ≠ bl := by
      intro hp b off e
      subst e
      obtain ⟨g, hg, hge, _⟩ := HO1.out.2.room (by have := HO1.out.2.le; omega)
      injection hg with hg
      injection hg with hg
      omega
    exact ⟨rfl, (But.of_below b1 hbl1).trans (But.set 0 _), fun _ => ⟨A1, c1, HK1.out.set 0 _, But.cells (But.set (bl := bl) 0 _) (HO1.out.lst layN) hne, hne, HO1.out.2.bare⟩⟩
  · have e1 : (r.2 == 0) = false := by simpa using he
    have HE := Lib.hid he
    clear he
    go_wp2_with fail
    go_ret
    exact ⟨rfl, But.of_below b1 hbl1, fun h0 => absurd h0 HE.out⟩
end Go.Proofs.Ytdamocjbkdknaaa.FleetW
