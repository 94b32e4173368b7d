/-
  Contracts of muster/store: New, Image; and whole, text of the law's package.
-/
import Derived.Test.YtdhnegcblnpmfaaStore2
namespace Go.Proofs.Ytdhnegcblnpmfaa.StorW
open Go.RowKit Mem Stor
set_option linter.unusedVariables false

/-- an append whose run is known, at a step of a region that draws its order -/
theorem step_app {P : Program} {ops : Array Oper} {o : Oper} {a : Act} {K : Act → World → Prop} {Q : Exit → Act → World → Prop} {E : Prop} {W W' : World} {t u : TypeId} {v v2 r : Value} (hgd : o.guard = none) (s x : Operand)
    (ho : o.op = .call { callee := .builtin .append, args := #[s, x], argTypes := #[t, u] }) (hs : a.eval s = v) (hx : a.eval x = v2) (hrun : (Builtin.append_ #[t, u] o.type #[v, v2]).run P W = .ok r W')
    (h : K (a.put o.dst r) W') : if Region.wanted o (yielded ops a.tmps) = true then Oper.wp P o a W K Q else E := by
  have hw : Region.wanted o (yielded ops a.tmps) = true := by simp [Region.wanted, hgd]
  rw [if_pos hw]
  unfold Oper.wp execOp
  simp only [ho, resolve, invoke, builtin, Sem.run_bind, Sem.run_pure, Result.andThen_ok, List.map_toArray, List.map_cons, List.map_nil, hs, hx, hrun]
  exact h

theorem byteInfo : (Try.prog.info? 5).map (fun i => (i.zero, i.size, i.bytes)) = some (some (.int .u8 0), 1, 1) := by kernel_rfl
theorem rowInfo : (Try.prog.info? 79).map (fun i => (i.zero, i.size, i.bytes)) = some (some (.slice none 0 0), 1, 24) := by kernel_rfl
theorem blank_made : madeCells (Value.int IntKind.u8 0).cells (256 * 1) = (bv zeros).toArray := by
  apply Array.ext'
  rw [show (Value.int IntKind.u8 0).cells = #[Value.int IntKind.u8 0] from rfl, toList_madeCells_one]
  show List.replicate 256 (Value.int IntKind.u8 0) = (bv zeros).toArray.toList
  rw [List.toList_toArray, bv, zeros, List.map_replicate]
  rfl
theorem make_blank (W : World) : (Instr.makeSlice 79 (.int .i64 256) (.int .i64 256)).run Try.prog W = .ok (.slice (some ⟨W.heap.size, 0, none⟩) 256 256) (W.alloc (.cells (bv zeros).toArray 5)) := by
  obtain ⟨i0, hi, hz0, hz1, hz2⟩ := info_parts byteInfo
  have := run_make (P := Try.prog) W 79 5 i0 _ Try.underlying79 hi hz0 .i64 .i64 256 256 (by omega) (by omega) (by rw [hz2]; omega) (by omega)
  rw [hz1] at this
  rw [this]
  rw [show (256 : Int).toNat * 1 = 256 * 1 from rfl, blank_made]
  rfl

def NewRel (w : World) (N : Nat) (i : Value) (wr : World) : Prop := ∃ k : Nat, k ≤ N ∧ i = .int .i64 k ∧ Is wr w.heap.size w.heap.size (new k) ∧ Below w.heap.size w wr

def NewPost (w : World) (N : Nat) (x : Ending) (w' : World) : Prop := ∃ g, x = .returned (.tuple #[.pointer (some ⟨g, 0, none⟩), .int .i64 0]) ∧ Is w' w.heap.size g (new N) ∧ Below w.heap.size w w'

attribute [local go_sem ↓] Go.wp_at_zero Go.wp_at_succ
set_option maxHeartbeats 2000000 in
set_option maxRecDepth 100000 in
theorem new_any (n : Nat) (w : World) (h1 : 1 ≤ n) (h4 : n ≤ 400) :
    Calls Try.prog 13 #[.int .i64 n] w (NewPost w n) := by
  obtain ⟨i0, hi, hz0, hz1, hz2⟩ := info_parts rowInfo
  go_enter Try.func13, Try.ntmps13
  go_wp2_with fail
  go_loopw [14] (fun i wr => NewRel w n i wr) (fun i _ => n - (intOf i).toNat)
  case atStart =>
    refine ⟨0, by omega, rfl, ⟨[], none, 0, Nat.le_refl _, ?_, World.ownsRow_nil _ _ _ _, rfl, List.nodup_nil, fun i h b hh => by simp at hh⟩, (Below.refl _ _).alloc (Nat.le_refl _) _⟩
    exact Blk.new w _ _
  case round =>
    obtain ⟨k, hk, rfl, ⟨hs, A, c, h⟩, hbel⟩ := hrel
    by_cases hlt : k < n
    · have c0 : wr.cell? ⟨w.heap.size, 0, none⟩ = some (.slice A (new k).bs.length c) := h.blk.cell 0
      have hbl : (new k).bs.length = k := by simp [new]
      have f0 := h.blk.frozen 0
      have hgl := h.blk.lt
      have hsz := hbel.size
      have hmk := make_blank
      have hown1 := ((h.own.alloc (.cells (bv zeros).toArray 5)).alloc (.cells #[hv wr.heap.size] 79))
      obtain ⟨A', c', W', hrun, hown2, hgr, hbel2, hob⟩ := app_own (P := Try.prog) ((wr.alloc (.cells (bv zeros).toArray 5)).alloc (.cells #[hv wr.heap.size] 79)).drew w.heap.size 48 48 79 i0 _ 1 24 Try.underlying48 hi hz0 hz1 hz2 rfl (by omega) A _ c _ hown1 _ 1 1 _ (Rd.one (wr.alloc (.cells (bv zeros).toArray 5)) (hv wr.heap.size) 79) (by simp) (by simp; rfl) (by simp [maxLen]; omega) (by omega) (by simp; omega)
      rw [hbl] at hrun hown2 hgr hob c0
      have HR := Lib.hid hrun
      simp only [World.size_alloc, hv] at HR
      have hgk : Blk W' w.heap.size 50 (flds A (new k).bs.length c (new k)) := ((h.blk.alloc _).alloc _).drew.grown hgr (fun e => own_ne h.own h.blk (by decide) (by rw [hbl]; exact e.symm))
      have d0 : W'.cell? ⟨w.heap.size, 0, none⟩ = some (.slice A (new k).bs.length c) := hgk.cell 0
      have e0 := hgk.frozen 0
      rw [hbl] at d0
      have hst : St (W'.setCell ⟨w.heap.size, 0, none⟩ (.slice A' (k + 1) c')) w.heap.size w.heap.size (new (k + 1)) (hs ++ [wr.heap.size]) A' c' := by
        have hbl1 : (new (k + 1)).bs.length = k + 1 := by simp [new]
        have hhl : hs.length = k := by rw [h.len, hbl]
        have hxs : ∀ x ∈ hs, x < wr.heap.size := by
          intro x hx
          obtain ⟨i, hi, rfl⟩ := List.getElem_of_mem hx
          have hi' : i < (new k).bs.length := by rw [hbl, ← hhl]; exact hi
          exact (h.data i hs[i] _ (List.getElem?_eq_getElem hi) (List.getElem?_eq_getElem hi')).2.lt
        refine ⟨Nat.le_refl _, ?_, ?_, by rw [List.length_append, hhl, hbl1]; rfl, ?_, fun i x b h1 h2 => ?_⟩
        · have := hgk.set 0 (.slice A' (k + 1) c')
          rw [hbl1]
          simpa [flds, new] using this
        · rw [hbl1, List.map_append]
          exact ownsRow_setCell_other hown2 (fun e => by
            rcases hob with h' | h'
            · exact own_ne h.own h.blk (by decide) (by rw [hbl, ← h']; exact e)
            · rw [h'] at e
              injection e with e
              simp at e
              omega) _
        · rw [List.nodup_append]
          refine ⟨h.nodup, by simp, fun a ha b hb => ?_⟩
          rw [List.mem_singleton] at hb
          have := hxs a ha
          omega
        · have hb : b = zeros := by
            have := List.mem_of_getElem? h2
            rw [new] at this
            exact List.eq_of_mem_replicate this
          subst hb
          have key : w.heap.size ≤ x ∧ Blk ((wr.alloc (.cells (bv zeros).toArray 5)).alloc (.cells #[hv wr.heap.size] 79)).drew x 5 (bv zeros).toArray := by
            by_cases hik : i < k
            · rw [List.getElem?_append_left (by omega)] at h1
              have h2' : (new k).bs[i]? = some zeros := by simp [new, hik]
              obtain ⟨h3, h4⟩ := h.data i x zeros h1 h2'
              exact ⟨h3, ((h4.alloc _).alloc _).drew⟩
            · have : i = hs.length := by
                have := (List.getElem?_eq_some_iff.1 h1).1
                simp at this
                omega
              subst this
              rw [List.getElem?_append_right (Nat.le_refl _), Nat.sub_self] at h1
              injection h1 with h1
              subst h1
              exact ⟨hsz, ((Blk.new wr _ _).alloc _).drew⟩
          refine ⟨key.1, ?_⟩
          have hxg : x ≠ w.heap.size := blk_ne key.2 ((h.blk.alloc _).alloc _).drew (by decide)
          refine Blk.far (key.2.grown hgr (fun e => ?_)) (p := ⟨w.heap.size, 0, none⟩) hxg _
          exact own_ne (((h.own.alloc _).alloc _)) key.2 (by decide) (by rw [hbl]; exact e.symm)
      have hbb : Below w.heap.size w (W'.setCell ⟨w.heap.size, 0, none⟩ (.slice A' (k + 1) c')) := ((((hbel.alloc hsz _).alloc (by simp; omega) _).drew).trans hbel2).setCell (p := ⟨w.heap.size, 0, none⟩) (Nat.le_refl _) _
      clear hrun hown1 hown2 hgr hbel2 hob hgk
      go_wp2_with fail
      go_region_law ((refine step_app rfl _ _ (by rfl) (by rfl) (by rfl) HR.out ?_))
      all_goals
        go_wp2_with fail
        exact ⟨⟨k + 1, by omega, by go_num, ⟨_, _, _, hst⟩, hbb⟩, by simp [intOf]; omega⟩
    · obtain rfl : k = n := by omega
      go_wp2_with fail
      go_ret2
      exact ⟨w.heap.size, rfl, ⟨hs, A, c, h⟩, hbel⟩
end Go.Proofs.Ytdhnegcblnpmfaa.StorW
