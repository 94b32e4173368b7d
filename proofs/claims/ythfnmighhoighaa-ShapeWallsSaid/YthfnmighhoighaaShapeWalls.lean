/-
  Contract: shape.Walls.
-/
import Derived.Test.YthfnmighhoighaaShapeFn
namespace Go.Proofs.Ythfnmighhoighaa.ShapeW
open Go.RowKit Mem Shape
set_option linter.unusedVariables false
set_option linter.unusedSimpArgs false
set_option linter.unnecessarySimpa false

def wallA (u : Int) (a : Al) : Al := ⟨a.nd, u⟩
def mixW (u : Int) (l : List Al) (k : Nat) : List Al := (l.take k).map (wallA u) ++ l.drop k
theorem mixW_zero (u : Int) (l : List Al) : mixW u l 0 = l := by simp [mixW]
theorem mixW_end (u : Int) (l : List Al) : mixW u l l.length = l.map (wallA u) := by simp [mixW]
theorem mixW_at {u : Int} {l : List Al} {k : Nat} (h : k < l.length) : (mixW u l k)[k]? = l[k]? := by
  rw [mixW, List.getElem?_append_right (by simp; omega)]
  simp [Nat.min_eq_left (Nat.le_of_lt h)]
theorem mixW_len (u : Int) (l : List Al) (k : Nat) : (mixW u l k).length = l.length := by simp [mixW]; omega
theorem mixW_step {u : Int} {l : List Al} {k : Nat} {a : Al} (h : l[k]? = some a) : (mixW u l k).set k (wallA u a) = mixW u l (k + 1) := by
  obtain ⟨hk, rfl⟩ := List.getElem?_eq_some_iff.1 h
  apply List.ext_getElem?
  intro i
  rw [List.getElem?_set]
  by_cases hi : k = i
  · subst hi
    rw [if_pos rfl, if_pos (by rw [mixW_len]; exact hk), mixW, List.getElem?_append_left (by simp; omega)]
    simp [hk]
  · rw [if_neg hi]
    unfold mixW
    by_cases h1 : i < k
    · rw [List.getElem?_append_left (by simp; omega), List.getElem?_append_left (by simp; omega)]
      simp [List.getElem?_take, h1, show i < k + 1 by omega]
    · rw [List.getElem?_append_right (by simp; omega), List.getElem?_append_right (by simp; omega)]
      simp only [List.length_map, List.length_take, List.getElem?_drop]
      congr 1
      omega
theorem sown_wall {w : World} {base g : Nat} {n c : Nat} {l : List Al} (h : AlsO w base (some ⟨g, 0, none⟩) n c l) {i : Nat} (hi : i < n) {a : Al} (ha : l[i]? = some a) (u : Int) :
    AlsO (w.setCell ⟨g, i * 2 + 1, none⟩ (.int .i64 u)) base (some ⟨g, 0, none⟩) n c (l.set i (wallA u a)) := by
  have hle := h.2.le
  have h1 := sown_setCells layA h (l' := l.set i (wallA u a)) (by rw [List.length_set]; exact h.1) (i * 2 + 1) [.int .i64 u] (by simp; omega) (fun j hj => by
    rw [flat_set layA l i (wallA u a) (by rw [h.1]; exact hi) j]
    by_cases hx : i * 2 ≤ j ∧ j < i * 2 + 2
    · rw [if_pos hx]
      by_cases hy : j = i * 2
      · subst hy
        rw [if_neg (by simp <;> omega)]
        have := flat_at layA l i a 0 (.int .i64 a.nd) ha rfl
        rw [Nat.add_zero] at this
        rw [this, Nat.sub_self]
        rfl
      · obtain rfl : j = i * 2 + 1 := by omega
        rw [if_pos (by simp)]
        simp [alRow, wallA, show i * 2 + 1 - i * 2 = 1 by omega]
    · rw [if_neg hx, if_neg (by simp; omega)])
  simpa [World.setCells] using h1
abbrev st5 (w : World) (B : Nat) (v0 v1 v2 v3 v4 : Value) : World := ((((w.setCell ⟨B, 0, none⟩ v0).setCell ⟨B, 1, none⟩ v1).setCell ⟨B, 2, none⟩ v2).setCell ⟨B, 3, none⟩ v3).setCell ⟨B, 4, none⟩ v4
theorem st5_blk {w : World} {B : Nat} {t : TypeId} {u0 u1 u2 u3 u4 : Value} (h : Blk w B t #[u0, u1, u2, u3, u4]) (v0 v1 v2 v3 v4 : Value) : Blk (st5 w B v0 v1 v2 v3 v4) B t #[v0, v1, v2, v3, v4] := ((((h.set 0 v0).set 1 v1).set 2 v2).set 3 v3).set 4 v4
theorem st5_own {w : World} {base B : Nat} {A : Option Addr} {n c : Nat} {l : List Al} (h : AlsO w base A n c l) (hB : B < base) (v0 v1 v2 v3 v4 : Value) : AlsO (st5 w B v0 v1 v2 v3 v4) base A n c l := ((((h.far (p := ⟨B, 0, none⟩) hB v0).far (p := ⟨B, 1, none⟩) hB v1).far (p := ⟨B, 2, none⟩) hB v2).far (p := ⟨B, 3, none⟩) hB v3).far (p := ⟨B, 4, none⟩) hB v4
theorem st5_below {w0 w : World} {base B : Nat} (h : Below base w0 w) (hB : base ≤ B) (v0 v1 v2 v3 v4 : Value) : Below base w0 (st5 w B v0 v1 v2 v3 v4) := ((((h.setCell (p := ⟨B, 0, none⟩) hB v0).setCell (p := ⟨B, 1, none⟩) hB v1).setCell (p := ⟨B, 2, none⟩) hB v2).setCell (p := ⟨B, 3, none⟩) hB v3).setCell (p := ⟨B, 4, none⟩) hB v4
def WallsPost (s : Sh) (w : World) (e : Ending) (w' : World) : Prop := ∃ A c, e = .returned (shV A s.al.length c s) ∧ AlsO w' w.heap.size A s.al.length c s.al ∧ Below w.heap.size w w'
abbrev zSh : Array Value := #[.int .i64 0, .slice none 0 0, .int .i64 0, .int .i64 0, .int .i64 0]
def WaRel (w : World) (base B0 B1 : Nat) (s : Sh) (A : Option Addr) (c : Nat) (u : Int) (Y : Value) (wr : World) : Prop := ∃ k : Nat, k ≤ s.al.length ∧ Y = .int .i64 k ∧ Blk wr B0 24 #[.int .i64 s.kd, .slice A s.al.length c, .int .i64 s.mn, .int .i64 s.mx, .int .i64 s.wl] ∧ Blk wr B1 24 zSh ∧ AlsO wr base A s.al.length c (mixW u s.al k) ∧ Below w.heap.size w wr
set_option maxHeartbeats 4000000 in
set_option maxRecDepth 100000 in
theorem walls_any (A : Option Addr) (n c : Nat) (s : Sh) (u : Int) (w : World) (h : ArgS w A n c s) : Calls Try.prog 22 #[shV A n c s, .int .i64 u] w (WallsPost (wallsT s u) w) := by
  have hlen := h.st.len
  subst hlen
  have hfew := h.few
  obtain ⟨V, hV⟩ : ∃ V, V = (w.alloc (shO A s.al.length c s)).alloc (.cells zSh 24) := ⟨_, rfl⟩
  have bV : Below w.heap.size w V := by rw [hV]; exact ((Below.refl _ _).alloc (Nat.le_refl _) _).alloc (by simp) _
  have kV : Blk V w.heap.size 24 #[.int .i64 s.kd, .slice A s.al.length c, .int .i64 s.mn, .int .i64 s.mx, .int .i64 s.wl] := by rw [hV]; exact (Blk.new _ _ _).alloc _
  have kZ : Blk V (w.heap.size + 1) 24 zSh := by
    rw [hV]
    have := Blk.new (w.alloc (shO A s.al.length c s)) 24 zSh
    simpa using this
  have HCl := Lib.hid (aclone_any A s.al.length c s.al V (h.st.below bV) (by omega) h.bare)
  have hVs : V.heap.size = w.heap.size + 2 := by rw [hV]; simp
  have HVs := Lib.hid hVs
  clear h hVs
  go_enter Try.func22, Try.ntmps22
  go_wp2_with fail
  rw [← hV]
  clear hV
  refine HCl.out.mono ?_
  rintro e w2 ⟨A2, c2, rfl, o2, b2⟩
  have k2 := kV.below b2 kV.lt
  have z2 := kZ.below b2 kZ.lt
  have f2 := k2.frozen 1
  obtain ⟨x0, x1, x2, x3, x4⟩ := blk5 k2
  have k3 : Blk (w2.setCell ⟨w.heap.size, 1, none⟩ (.slice A2 s.al.length c2)) w.heap.size 24 #[.int .i64 s.kd, .slice A2 s.al.length c2, .int .i64 s.mn, .int .i64 s.mx, .int .i64 s.wl] := k2.set 1 _
  have z3 : Blk (w2.setCell ⟨w.heap.size, 1, none⟩ (.slice A2 s.al.length c2)) (w.heap.size + 1) 24 zSh := z2.far (by simp) _
  have b02 := below_step bV b2
  have o3 : AlsO (w2.setCell ⟨w.heap.size, 1, none⟩ (.slice A2 s.al.length c2)) V.heap.size A2 s.al.length c2 s.al := o2.far (by show w.heap.size < V.heap.size; rw [HVs.out]; omega) _
  have b03 : Below w.heap.size w (w2.setCell ⟨w.heap.size, 1, none⟩ (.slice A2 s.al.length c2)) := b02.setCell (p := ⟨w.heap.size, 1, none⟩) (Nat.le_refl _) _
  obtain ⟨y0, y1, y2, y3, y4⟩ := blk5 k3
  have HK3 := Lib.hid k3
  have HZ3 := Lib.hid z3
  have HO3 := Lib.hid o3
  clear k2 z2 k3 z3 o3 o2
  go_wp2_with fail
  go_loopw [13] (fun Y wr => WaRel w V.heap.size w.heap.size (w.heap.size + 1) s A2 c2 u Y wr) (fun Y _ => s.al.length - (intOf Y).toNat)
  case atStart => exact ⟨0, by omega, rfl, HK3.out, HZ3.out, by rw [mixW_zero]; exact HO3.out, b03⟩
  case round =>
    obtain ⟨k, hk, rfl, hkb, hzb, ho, hbel⟩ := hrel
    clear x0 x1 x2 x3 x4 y0 y1 y2 y3 y4
    obtain ⟨x0, x1, x2, x3, x4⟩ := blk5 hkb
    by_cases hlt : k < s.al.length
    · obtain ⟨g, hA, hge, hgl, hc1, hc2⟩ := ho.2.room (by have := ho.2.le; omega)
      subst hA
      obtain ⟨a, ha⟩ : ∃ a, s.al[k]? = some a := ⟨_, List.getElem?_eq_getElem hlt⟩
      have hle := ho.2.le
      obtain ⟨q1, q2⟩ := hc2 (k * 2 + 1) (by omega)
      have hnew := sown_wall ho hlt ((mixW_at hlt).trans ha) u
      rw [mixW_step ha] at hnew
      have HN := Lib.hid hnew
      have hg0 : w.heap.size ≠ g := by have := HVs.out; omega
      have hg1 : w.heap.size + 1 ≠ g := by have := HVs.out; omega
      have HKn := Lib.hid (hkb.far (p := ⟨g, k * 2 + 1, none⟩) hg0 (.int .i64 u))
      have HZn := Lib.hid (hzb.far (p := ⟨g, k * 2 + 1, none⟩) hg1 (.int .i64 u))
      have HBn := Lib.hid (hbel.setCell (p := ⟨g, k * 2 + 1, none⟩) (by show w.heap.size ≤ g; have := HVs.out; omega) (.int .i64 u))
      obtain ⟨v, hv⟩ := Option.isSome_iff_exists.1 q1
      have hki : (k : Int) < (s.al.length : Int) := by omega
      clear hnew ho hkb hzb hc1 hc2 ha q1
      go_wp2_with fail
      exact ⟨⟨k + 1, by omega, by go_num, HKn.out, HZn.out, HN.out, HBn.out⟩, by simp [intOf]; omega⟩
    · obtain rfl : k = s.al.length := by omega
      rw [mixW_end] at ho
      have HO := Lib.hid ho
      obtain ⟨z0, z1, z2, z3, z4⟩ := blk5 hzb
      have fz0 := hzb.frozen 0
      have fz1 := hzb.frozen 1
      have fz2 := hzb.frozen 2
      have fz3 := hzb.frozen 3
      have fz4 := hzb.frozen 4
      have fk4 := hkb.frozen 4
      clear ho
      by_cases k3 : s.kd = 3
      · have e3 : (s.kd == 3) = true := by simp [k3]
        have HFin := Lib.hid (st5_blk (hzb.far (p := ⟨w.heap.size, 4, none⟩) (by simp) (.int .i64 u)) (.int .i64 s.kd) (.slice A2 s.al.length c2) (.int .i64 s.mn) (.int .i64 s.mx) (.int .i64 u))
        obtain ⟨y0, y1, y2, y3, y4⟩ := blk5 HFin.out
        have HOn := Lib.hid (st5_own (HO.out.far (p := ⟨w.heap.size, 4, none⟩) (by show w.heap.size < V.heap.size; rw [HVs.out]; omega) (.int .i64 u)) (show w.heap.size + 1 < V.heap.size by rw [HVs.out]; omega) (.int .i64 s.kd) (.slice A2 s.al.length c2) (.int .i64 s.mn) (.int .i64 s.mx) (.int .i64 u))
        have HBn := Lib.hid (st5_below (hbel.setCell (p := ⟨w.heap.size, 4, none⟩) (Nat.le_refl _) (.int .i64 u)) (show w.heap.size ≤ w.heap.size + 1 by omega) (.int .i64 s.kd) (.slice A2 s.al.length c2) (.int .i64 s.mn) (.int .i64 s.mx) (.int .i64 u))
        have HT : Hid (wallsT s u = ⟨s.kd, s.al.map (wallA u), s.mn, s.mx, u⟩) := by show _ = _; simp [wallsT, k3, wallA]; try rfl
        clear k3
        go_wp2_with fail
        refine bodyPost_ret (v := .agg #[.int .i64 s.kd, .slice A2 s.al.length c2, .int .i64 s.mn, .int .i64 s.mx, .int .i64 u]) (by simp [results, Try.results22, go_sem, y0, y1, y2, y3, y4]) rfl ?_
        rw [HT.out]
        refine ⟨A2, c2, by simp, ?_, HBn.out⟩
        simp only [List.length_map]
        exact HOn.out.mono (by rw [HVs.out]; omega)
      · have e3 : (s.kd == 3) = false := by simpa using k3
        have HFin := Lib.hid (st5_blk (hzb) (.int .i64 s.kd) (.slice A2 s.al.length c2) (.int .i64 s.mn) (.int .i64 s.mx) (.int .i64 s.wl))
        obtain ⟨y0, y1, y2, y3, y4⟩ := blk5 HFin.out
        have HOn := Lib.hid (st5_own (HO.out) (show w.heap.size + 1 < V.heap.size by rw [HVs.out]; omega) (.int .i64 s.kd) (.slice A2 s.al.length c2) (.int .i64 s.mn) (.int .i64 s.mx) (.int .i64 s.wl))
        have HBn := Lib.hid (st5_below (hbel) (show w.heap.size ≤ w.heap.size + 1 by omega) (.int .i64 s.kd) (.slice A2 s.al.length c2) (.int .i64 s.mn) (.int .i64 s.mx) (.int .i64 s.wl))
        have HT : Hid (wallsT s u = ⟨s.kd, s.al.map (wallA u), s.mn, s.mx, s.wl⟩) := by show _ = _; simp [wallsT, k3, wallA]; try rfl
        clear k3
        go_wp2_with fail
        refine bodyPost_ret (v := .agg #[.int .i64 s.kd, .slice A2 s.al.length c2, .int .i64 s.mn, .int .i64 s.mx, .int .i64 s.wl]) (by simp [results, Try.results22, go_sem, y0, y1, y2, y3, y4]) rfl ?_
        rw [HT.out]
        refine ⟨A2, c2, by simp, ?_, HBn.out⟩
        simp only [List.length_map]
        exact HOn.out.mono (by rw [HVs.out]; omega)
end Go.Proofs.Ythfnmighhoighaa.ShapeW
