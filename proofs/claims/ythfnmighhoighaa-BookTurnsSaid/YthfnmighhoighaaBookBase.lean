/-
  Reservations in memory; contract of muster/book's fine.
-/
import Derived.Test.YthfnmighhoighaaBookPlain
import Derived.Test.YthfnmighhoighaaProf6
namespace Go.Proofs.Ythfnmighhoighaa.BookW
open Go.RowKit Mem Prof Book ProfW
set_option linter.unusedVariables false

def bkRow (b : Bk) : List Value := [.int .i64 b.id, .int .i64 b.fr, .int .i64 b.to, .int .i64 b.nd]
def bkA (b : Bk) : Array Value := #[.int .i64 b.id, .int .i64 b.fr, .int .i64 b.to, .int .i64 b.nd]
abbrev Bks := Lst bkRow 4
theorem layB : Lay bkRow 4 := ⟨fun _ => rfl, fun x u hu => by simp [bkRow] at hu; rcases hu with rfl | rfl | rfl | rfl <;> rfl, by omega⟩
abbrev BksO := SOwn bkRow 4
theorem Lst.four {w : World} {A : Option Addr} {n : Nat} {l : List Bk} (h : Bks w A n l) {i : Nat} (hi : i < n) : ∃ b off s, A = some ⟨b, off, none⟩ ∧ b < w.heap.size ∧ l[i]? = some s ∧ w.cell? ⟨b, off + i * 4, none⟩ = some (.int .i64 s.id) ∧ w.cell? ⟨b, off + i * 4 + 1, none⟩ = some (.int .i64 s.fr) ∧ w.cell? ⟨b, off + i * 4 + 2, none⟩ = some (.int .i64 s.to) ∧ w.cell? ⟨b, off + i * 4 + 3, none⟩ = some (.int .i64 s.nd) := by
  obtain ⟨b, off, s, hA, hb, hs, hc⟩ := h.at_ hi
  exact ⟨b, off, s, hA, hb, hs, hc 0 _ rfl, hc 1 _ rfl, hc 2 _ rfl, hc 3 _ rfl⟩
theorem fine_off {b : Bk} (h : ¬ (1 ≤ b.id ∧ b.id ≤ 99999 ∧ 0 ≤ b.fr ∧ b.fr < b.to ∧ b.to ≤ 1000000 ∧ 1 ≤ b.nd ∧ b.nd ≤ 48)) : fineB b = false := by
  cases hb : fineB b
  · rfl
  · exact absurd (fine_iff.1 hb) h
theorem fine_cases (b : Bk) : b.id < 1 ∨ (1 ≤ b.id ∧ 99999 < b.id) ∨ (1 ≤ b.id ∧ b.id ≤ 99999 ∧ b.fr < 0) ∨ (1 ≤ b.id ∧ b.id ≤ 99999 ∧ 0 ≤ b.fr ∧ b.to ≤ b.fr) ∨ (1 ≤ b.id ∧ b.id ≤ 99999 ∧ 0 ≤ b.fr ∧ b.fr < b.to ∧ 1000000 < b.to) ∨
    (1 ≤ b.id ∧ b.id ≤ 99999 ∧ 0 ≤ b.fr ∧ b.fr < b.to ∧ b.to ≤ 1000000 ∧ b.nd < 1) ∨ (1 ≤ b.id ∧ b.id ≤ 99999 ∧ 0 ≤ b.fr ∧ b.fr < b.to ∧ b.to ≤ 1000000 ∧ 1 ≤ b.nd ∧ 48 < b.nd) ∨ (1 ≤ b.id ∧ b.id ≤ 99999 ∧ 0 ≤ b.fr ∧ b.fr < b.to ∧ b.to ≤ 1000000 ∧ 1 ≤ b.nd ∧ b.nd ≤ 48) := by omega
set_option maxHeartbeats 1000000 in
theorem fine_any (b : Bk) (w : World) : Calls Try.prog 58 #[.agg #[.int .i64 b.id, .int .i64 b.fr, .int .i64 b.to, .int .i64 b.nd]] w (Ret (.bool (fineB b)) w) := by
  rcases fine_cases b with h1 | ⟨h1, h2⟩ | ⟨h1, h2, h3⟩ | ⟨h1, h2, h3, h4⟩ | ⟨h1, h2, h3, h4, h5⟩ | ⟨h1, h2, h3, h4, h5, h6⟩ | ⟨h1, h2, h3, h4, h5, h6, h7⟩ | ⟨h1, h2, h3, h4, h5, h6, h7⟩
  case inr.inr.inr.inr.inr.inr.inr =>
    have HR := Lib.hid (fine_iff.2 ⟨h1, h2, h3, h4, h5, h6, h7⟩)
    go_enter Try.func58, Try.ntmps58
    go_wp2_with fail
    go_ret
    exact ⟨ret_bool (by rw [HR.out]; try simp <;> omega), (Below.refl _ _).alloc (Nat.le_refl _) _⟩
  all_goals
    have HR := Lib.hid (fine_off (b := b) (by omega))
    go_enter Try.func58, Try.ntmps58
    go_wp2_with fail
    go_ret
    exact ⟨ret_bool (by rw [HR.out]; try simp <;> omega), (Below.refl _ _).alloc (Nat.le_refl _) _⟩
theorem blk4 {w : World} {g : Nat} {t : TypeId} {v0 v1 v2 v3 : Value} (h : Blk w g t #[v0, v1, v2, v3]) : w.cell? ⟨g, 0, none⟩ = some v0 ∧ w.cell? ⟨g, 1, none⟩ = some v1 ∧ w.cell? ⟨g, 2, none⟩ = some v2 ∧ w.cell? ⟨g, 3, none⟩ = some v3 := ⟨h.cell 0, h.cell 1, h.cell 2, h.cell 3⟩
end Go.Proofs.Ythfnmighhoighaa.BookW
