/-
  Appends onto a slice that the call itself has made, as equations on the operation's run; slices of bytes so made, read back as strings. Nothing of the program.
-/
import Derived.Test.YtgmoakbmomaffaaMem
import Derived.Test.YtgmoakbmomaffaaBytes
import Derived.Maps.AppendAt
import Derived.Laws.OwnMore
namespace Go.Proofs.Ytgmoakbmomaffaa.Mem
open Go.RowKit

/-- a slice of m elements reads as these cells (nil let in) -/
def Rd (W : World) (A : Option Addr) (m size : Nat) (news : List Value) : Prop :=
  news.length = m * size ∧ (0 < m → ∃ ad, A = some ad ∧ ∀ j u, news[j]? = some u → W.cell? (ad.add j) = some u)
theorem plain_add' (b off i : Nat) : (⟨b, off, none⟩ : Addr).add i = ⟨b, off + i, none⟩ := by unfold Addr.add; split <;> simp_all
theorem Rd.of_row {W : World} {A : Option Addr} {n : Nat} {vs : List Value} (h : Row W A n vs) : Rd W A n 1 vs :=
  ⟨by rw [h.1, Nat.mul_one], fun hn => by
    obtain ⟨b, off, e, _, hc⟩ := h.2 hn
    exact ⟨_, e, fun j u hu => by rw [plain_add']; exact hc j u hu⟩⟩
theorem Rd.of_own {W : World} {base : Nat} {e : TypeId} {size : Nat} {A : Option Addr} {n c : Nat} {xs : List Value} (h : W.ownsRow base e size (.slice A n c) n xs) : Rd W A n size xs :=
  ⟨h.1, fun hn => by
    rcases h.2 with ⟨_, h0⟩ | ⟨g, cap, cur, hv, _⟩
    · omega
    · injection hv with hA _ _
      exact ⟨⟨g, 0, none⟩, hA, h.cells (by rw [hA]; rfl)⟩⟩
theorem Rd.one (W : World) (v : Value) (t : TypeId) : Rd (W.alloc (.cells #[v] t)) (some ⟨W.heap.size, 0, none⟩) 1 1 [v] :=
  ⟨rfl, fun _ => ⟨_, rfl, cell_one_new W v t⟩⟩
theorem own_slice {W : World} {base : Nat} {e : TypeId} {size : Nat} {v : Value} {n : Nat} {xs : List Value} (h : W.ownsRow base e size v n xs) : ∃ A c, v = .slice A n c := by
  rcases h.2 with ⟨rfl, rfl⟩ | ⟨g, cap, cur, rfl, _⟩
  · exact ⟨_, _, rfl⟩
  · exact ⟨_, _, rfl⟩

theorem app_own {P : Program} (W : World) (base : Nat) (t ty e : TypeId) (i : TypeInfo) (z : Value) (size bytes : Nat) (ht : P.underlying t = some (.slice e)) (hi : P.info? e = some i) (hz : i.zero = some z)
    (hsize : i.size = size) (hby : i.bytes = bytes) (hzs : z.cells.size = size) (hsz : 0 < size)
    (A : Option Addr) (n c : Nat) (xs : List Value) (hown : W.ownsRow base e size (.slice A n c) n xs)
    (B : Option Addr) (m d : Nat) (news : List Value) (hr : Rd W B m size news) (hd : B = none → d = 0) (h1 : ∀ u ∈ news, u.oneCell' = true)
    (h63 : n + m ≤ maxLen) (hbytes : (n + m) * bytes ≤ 140737488355328) (hbase : base ≤ W.heap.size) :
    ∃ A' c' W', (Builtin.append_ #[t, t] ty #[.slice A n c, .slice B m d]).run P W = .ok (.slice A' (n + m) c') W' ∧ W'.ownsRow base e size (.slice A' (n + m) c') (n + m) (xs ++ news) ∧
      W.grownBy W' (Value.slice A n c).ownBlock ∧ Below base W W' ∧ ((Value.slice A' (n + m) c').ownBlock = (Value.slice A n c).ownBlock ∨ (Value.slice A' (n + m) c').ownBlock = some W.heap.size) := by
  have hbel : ∀ W', W.grownBy W' (Value.slice A n c).ownBlock → Below base W W' := fun W' hg => (Below.refl base W).grown hg hbase (fun k hk => (hown.lt k hk).1)
  rcases B with _ | ad
  · have hm : m = 0 := by
      rcases Nat.eq_zero_or_pos m with h0 | h0
      · exact h0
      · obtain ⟨ad, h, _⟩ := hr.2 h0
        cases h
    subst hm
    have hn : news = [] := List.eq_nil_of_length_eq_zero (by simpa using hr.1)
    subst hn
    rw [hd rfl]
    exact ⟨A, c, W, run_append_owned_none W base t ty e i size ht hi _ n xs hown, by simpa using hown, World.grownBy.refl W _, hbel _ (World.grownBy.refl W _), .inl rfl⟩
  · have hcells : ∀ j u, news[j]? = some u → W.cell? (ad.add j) = some u := by
      intro j u hu
      rcases Nat.eq_zero_or_pos m with h0 | h0
      · subst h0
        have hn : news = [] := List.eq_nil_of_length_eq_zero (by simpa using hr.1)
        subst hn
        simp at hu
      · obtain ⟨ad', h, hc⟩ := hr.2 h0
        injection h with h
        subst h
        exact hc j u hu
    obtain ⟨v', W', hrun, h2, h3, _, h5⟩ := run_append_own_at (P := P) W base t ty e i z size bytes ht hi hz hsize hby hzs hsz _ n xs hown ad m d news hr.1 hcells h1 h63 hbytes hbase
    obtain ⟨A', c', rfl⟩ := own_slice h2
    exact ⟨A', c', W', hrun, h2, h3, hbel _ h3, h5⟩

/-- an append whose run is known, met in a walk -/
theorem wpList_app {P : Program} {ops : Array Oper} {rest : List Oper} {o : Oper} {a : Act} {Q : Exit → Act → World → Prop} {W W' : World} {t : TypeId} {v v2 r : Value} (hgd : o.guard = none) (s x : Operand)
    (ho : o.op = .call { callee := .builtin .append, args := #[s, x], argTypes := #[t, t] }) (hs : a.eval s = v) (hx : a.eval x = v2) (hrun : (Builtin.append_ #[t, t] o.type #[v, v2]).run P W = .ok r W')
    (h : wpList P ops Q rest (a.put o.dst r) W') : wpList P ops Q (o :: rest) a W := by
  refine wpList_plain hgd fun K hK => ?_
  unfold Oper.wp execOp
  simp only [ho, resolve, invoke, builtin, Sem.run_bind, Sem.run_pure, Result.andThen_ok, List.map_toArray, List.map_cons, List.map_nil, hs, hx, hrun]
  exact hK _ _ h

/-- bytes as cells -/
def bv (l : List UInt8) : List Value := l.map fun c => .int .u8 (c.toNat : Int)
theorem bv_length (l : List UInt8) : (bv l).length = l.length := by simp [bv]
theorem bv_append (l m : List UInt8) : bv (l ++ m) = bv l ++ bv m := by simp [bv]
theorem bv_one (l : List UInt8) : ∀ u ∈ bv l, u.oneCell' = true := by
  intro u hu
  simp only [bv, List.mem_map] at hu
  obtain ⟨c, _, rfl⟩ := hu
  rfl
theorem own_back {P : Program} {W : World} {base : Nat} {e : TypeId} {A : Option Addr} {n c : Nat} {l : List UInt8} (h : W.ownsRow base e 1 (.slice A n c) n (bv l)) (src dst : TypeId)
    (hs : P.underlying src = some (.slice e)) (he : P.underlying e = some (.int .u8)) (hd : P.underlying dst = some .string) : (convert src dst (.slice A n c)).run P W = .ok (.string ⟨l.toArray⟩) W := by
  have hl : l.length = n := by have := h.1; rw [bv_length] at this; omega
  rcases h.2 with ⟨hv, h0⟩ | ⟨g, cap, cur, hv, _⟩
  · injection hv with hA _ _
    subst h0
    have : l = [] := List.eq_nil_of_length_eq_zero hl
    subst this
    rw [hA, run_convert_bytes_nil W src e hs he 0 c dst hd]
    rfl
  · injection hv with hA _ _
    subst hA
    subst hl
    refine run_convert_bytes_back W src dst e _ c l hs he hd (fun j hj => ?_)
    exact h.cells (g := g) rfl j _ (by simp [bv, List.getElem?_eq_getElem hj])
end Go.Proofs.Ytgmoakbmomaffaa.Mem
