/-
  Appends onto slices of the call's own, met in walks and in regions that draw their order; slices of ints. Nothing of the program.
-/
import Derived.Test.YtgmoakbmomaffaaSlices
namespace Go.Proofs.Ytgmoakbmomaffaa.Mem
open Go.RowKit

section
variable {α : Type} {f : α → List Value} {k : Nat} (hL : Lay f k)
include hL
theorem step_app_s {P : Program} {ops : Array Oper} {o : Oper} {a : Act} {K : Act → World → Prop} {Q : Exit → Act → World → Prop} {E : Prop} {W : World} {t e : TypeId} {z : Value} {bytes base : Nat} {A : Option Addr} {n c : Nat} {l : List α} {B : Option Addr} {m d : Nat} {l2 : List α} (hgd : o.guard = none) (s x : Operand)
    (ho : o.op = .call { callee := .builtin .append, args := #[s, x], argTypes := #[t, t] }) (hs : a.eval s = .slice A n c) (hx : a.eval x = .slice B m d) (ht : P.underlying t = some (.slice e)) (hinf : (P.info? e).map (fun i => (i.zero, i.size, i.bytes)) = some (some z, k, bytes)) (hzs : z.cells.size = k)
    (hown : SOwn f k W base A n c l) (hsrc : Lst f k W B m l2) (h63 : n + m ≤ maxLen) (hbytes : (n + m) * bytes ≤ 140737488355328) (hbase : base ≤ W.heap.size)
    (h : ∀ A' c' W', SOwn f k W' base A' (n + m) c' (l ++ l2) → Below base W W' → (∀ b, b < W.heap.size → A ≠ some ⟨b, 0, none⟩ → W'.heap[b]? = W.heap[b]?) → K (a.put o.dst (.slice A' (n + m) c')) W') :
    if Region.wanted o (yielded ops a.tmps) = true then Oper.wp P o a W K Q else E := by
  obtain ⟨A', c', W', hrun, h1, h2, h3, _⟩ := app_s hL (P := P) W base t o.type e z bytes ht hinf hzs A n c l hown B m d l2 hsrc h63 hbytes hbase
  have hw : Region.wanted o (yielded ops a.tmps) = true := by simp [Region.wanted, hgd]
  rw [if_pos hw]
  unfold Oper.wp execOp
  simp only [ho, resolve, invoke, builtin, Sem.run_bind, Sem.run_pure, Result.andThen_ok, List.map_toArray, List.map_cons, List.map_nil, hs, hx, hrun]
  exact h A' c' W' h1 h2 h3
theorem step_app_0 {P : Program} {ops : Array Oper} {o : Oper} {a : Act} {K : Act → World → Prop} {Q : Exit → Act → World → Prop} {E : Prop} {W : World} {t e : TypeId} {z : Value} {bytes : Nat} (base : Nat) {A : Addr} {B : Option Addr} {m d : Nat} {l2 : List α} (hgd : o.guard = none) (s x : Operand)
    (ho : o.op = .call { callee := .builtin .append, args := #[s, x], argTypes := #[t, t] }) (hs : a.eval s = .slice (some A) 0 0) (hx : a.eval x = .slice B m d) (ht : P.underlying t = some (.slice e)) (hinf : (P.info? e).map (fun i => (i.zero, i.size, i.bytes)) = some (some z, k, bytes)) (hzs : z.cells.size = k)
    (hsrc : Lst f k W B m l2) (h63 : m ≤ maxLen) (hbytes : m * bytes ≤ 140737488355328) (hbase : base ≤ W.heap.size)
    (h : ∀ A' c' W', SOwn f k W' base A' m c' l2 → Below base W W' → (∀ b, b < W.heap.size → some A ≠ some ⟨b, 0, none⟩ → W'.heap[b]? = W.heap[b]?) → K (a.put o.dst (.slice A' m c')) W') :
    if Region.wanted o (yielded ops a.tmps) = true then Oper.wp P o a W K Q else E := by
  refine step_app_s hL hgd s x ho hs hx ht hinf hzs (SOwn.none f k W base A) hsrc (by omega) (by rw [Nat.zero_add]; exact hbytes) hbase (fun A' c' W' h1 h2 h3 => ?_)
  rw [Nat.zero_add] at h1 ⊢
  exact h A' c' W' h1 h2 h3
theorem wpList_app_s {P : Program} {ops : Array Oper} {rest : List Oper} {o : Oper} {a : Act} {Q : Exit → Act → World → Prop} {W : World} {t e : TypeId} {z : Value} {bytes base : Nat} {A : Option Addr} {n c : Nat} {l : List α} {B : Option Addr} {m d : Nat} {l2 : List α} (hgd : o.guard = none) (s x : Operand)
    (ho : o.op = .call { callee := .builtin .append, args := #[s, x], argTypes := #[t, t] }) (hs : a.eval s = .slice A n c) (hx : a.eval x = .slice B m d) (ht : P.underlying t = some (.slice e)) (hinf : (P.info? e).map (fun i => (i.zero, i.size, i.bytes)) = some (some z, k, bytes)) (hzs : z.cells.size = k)
    (hown : SOwn f k W base A n c l) (hsrc : Lst f k W B m l2) (h63 : n + m ≤ maxLen) (hbytes : (n + m) * bytes ≤ 140737488355328) (hbase : base ≤ W.heap.size)
    (h : ∀ A' c' W', SOwn f k W' base A' (n + m) c' (l ++ l2) → Below base W W' → (∀ b, b < W.heap.size → A ≠ some ⟨b, 0, none⟩ → W'.heap[b]? = W.heap[b]?) → wpList P ops Q rest (a.put o.dst (.slice A' (n + m) c')) W') :
    wpList P ops Q (o :: rest) a W := by
  obtain ⟨A', c', W', hrun, h1, h2, h3, _⟩ := app_s hL (P := P) W base t o.type e z bytes ht hinf hzs A n c l hown B m d l2 hsrc h63 hbytes hbase
  exact wpList_app2 hgd s x ho hs hx hrun (h A' c' W' h1 h2 h3)
end
theorem Lst.keep {α : Type} {f : α → List Value} {k : Nat} {w w' : World} {b : Nat} {n : Nat} {l : List α} (h : Lst f k w (some ⟨b, 0, none⟩) n l) (hsz : w.heap.size ≤ w'.heap.size) (hb : w'.heap[b]? = w.heap[b]?) : Lst f k w' (some ⟨b, 0, none⟩) n l := by
  refine ⟨Cells.len h, Cells.each h, fun hn => ?_⟩
  obtain ⟨b', off, e, hlt, hc⟩ := Cells.at_ h hn
  injection e with e
  injection e with e1 e2
  subst e1 e2
  exact ⟨_, _, rfl, by omega, fun i r hr j v hv => (World.cell?_of_block (a := ⟨b, 0 + i * k + j, none⟩) hb).trans (hc i r hr j v hv)⟩
theorem Lst.pre {α : Type} {f : α → List Value} {k : Nat} {w : World} {A : Option Addr} {n : Nat} {l : List α} (h : Lst f k w A n l) (i : Nat) (hi : i ≤ n) : Lst f k w A i (l.take i) := by
  have hl := h.len
  refine ⟨by simp; omega, fun r hr => Cells.each h r (by obtain ⟨x, hx, rfl⟩ := List.mem_map.1 hr; exact List.mem_map.2 ⟨x, List.mem_of_mem_take hx, rfl⟩), fun h0 => ?_⟩
  obtain ⟨b, off, hA, hb, hc⟩ := Cells.at_ h (by omega)
  refine ⟨b, off, hA, hb, fun j r hr => hc j r ?_⟩
  rw [List.getElem?_map] at hr ⊢
  have hj : j < i := by
    rcases Nat.lt_or_ge j i with h' | h'
    · exact h'
    · rw [List.getElem?_eq_none (by simp; omega)] at hr; cases hr
  rw [List.getElem?_take_of_lt hj] at hr
  exact hr
theorem Lst.drop {α : Type} {f : α → List Value} {k : Nat} {w : World} {b off : Nat} {n : Nat} {l : List α} (h : Lst f k w (some ⟨b, off, none⟩) n l) (i : Nat) (hi : i ≤ n) : Lst f k w (some ⟨b, off + i * k, none⟩) (n - i) (l.drop i) := by
  have hl := h.len
  refine ⟨by simp; omega, fun r hr => Cells.each h r (by obtain ⟨x, hx, rfl⟩ := List.mem_map.1 hr; exact List.mem_map.2 ⟨x, List.mem_of_mem_drop hx, rfl⟩), fun h0 => ?_⟩
  obtain ⟨b', off', e, hlt, hc⟩ := Cells.at_ h (by omega)
  injection e with e
  injection e with e1 e2
  subst e1 e2
  refine ⟨_, _, rfl, hlt, fun j r hr q v hv => ?_⟩
  have := hc (i + j) r (by rw [List.getElem?_map] at hr ⊢; rw [List.getElem?_drop] at hr; exact hr) q v hv
  rw [Nat.add_mul, ← Nat.add_assoc] at this
  exact this

def intRow (x : Int) : List Value := [.int .i64 x]
theorem layI : Lay intRow 1 := ⟨fun _ => rfl, fun x u hu => by simp [intRow] at hu; subst hu; rfl, by omega⟩
abbrev Ints := Lst intRow 1
abbrev IntsO := SOwn intRow 1
theorem Lst.int {w : World} {A : Option Addr} {n : Nat} {l : List Int} (h : Ints w A n l) {i : Nat} (hi : i < n) : ∃ b off x, A = some ⟨b, off, none⟩ ∧ b < w.heap.size ∧ l[i]? = some x ∧ w.cell? ⟨b, off + i, none⟩ = some (.int .i64 x) := by
  obtain ⟨b, off, x, hA, hb, hx, hc⟩ := h.at_ hi
  refine ⟨b, off, x, hA, hb, hx, ?_⟩
  have := hc 0 _ rfl
  rw [Nat.mul_one] at this
  exact this
end Go.Proofs.Ytgmoakbmomaffaa.Mem
