/-
  ShapeWalls: the law's walk.
-/
import Derived.Test.YthfnmighhoighaaShapeLaw
import Derived.Test.YthfnmighhoighaaShapeLaw2
namespace Go.Proofs.Ythfnmighhoighaa.ShapeW
open Go.RowKit Mem Shape
set_option linter.unusedVariables false
set_option linter.unusedSimpArgs false
set_option linter.unnecessarySimpa false

theorem walls_at {u : Int} {l m : List Al} (h : m = l.map (wallA u)) {k : Nat} {a b : Al} (ha : l[k]? = some a) (hb : m[k]? = some b) : b.nd = a.nd ∧ b.wl = u := by
  subst h
  rw [List.getElem?_map, ha] at hb
  injection hb with hb
  subst hb
  exact ⟨rfl, rfl⟩
def AwGo (W : World) (e : Ending) (w' : World) : Prop := e = .returned (.bool true) ∧ Below W.heap.size W w'
set_option maxHeartbeats 8000000 in
set_option maxRecDepth 100000 in
theorem swalls_any (A : Option Addr) (n c : Nat) (s : Sh) (u : Int) (W : World) (g : ArgX W A n c s) : Calls Try.prog 6 #[shV A n c s, .int .i64 u] W (TrueB W) := by
  have hlen := g.st.len
  subst hlen
  obtain ⟨V, hV⟩ : ∃ V, V = W.alloc (shO A s.al.length c s) := ⟨_, rfl⟩
  have bV : Below W.heap.size W V := by rw [hV]; exact (Below.refl _ _).alloc (Nat.le_refl _) _
  have k0 : Blk V W.heap.size 24 #[.int .i64 s.kd, .slice A s.al.length c, .int .i64 s.mn, .int .i64 s.mx, .int .i64 s.wl] := by rw [hV]; exact Blk.new _ _ _
  obtain ⟨x0, x1, x2, x3, x4⟩ := blk5 k0
  have HAw := Lib.hid sawake_any
  by_cases hn : s.al.length ≤ 100
  case neg =>
    have HF := Lib.hid (sfew_is false A s.al.length c s V (by simp; omega))
    clear g
    go_enter Try.func6, Try.ntmps6
    go_wp2_with fail
    rw [← hV]
    clear hV
    refine HF.out.mono ?_
    rintro e w1 ⟨rfl, b1⟩
    go_wp2_with fail
    refine (HAw.out _).mono ?_
    rintro e w2 ⟨rfl, b2⟩
    go_wp2_with fail
    go_ret
    exact ⟨rfl, below_step (below_step bV b1) b2⟩
  have HF := Lib.hid (sfew_is true A s.al.length c s V (by simp; omega))
  have HG := Lib.hid ((g.arg hn).below bV)
  clear g
  cases hck : chk s
  · have HC := Lib.hid (chkE_no hck)
    clear hck
    go_enter Try.func6, Try.ntmps6
    go_wp2_with fail
    rw [← hV]
    clear hV
    refine HF.out.mono ?_
    rintro e w1 ⟨rfl, b1⟩
    have b01 := below_step bV b1
    have k1 := k0.below b1 k0.lt
    clear x0 x1 x2 x3 x4
    obtain ⟨x0, x1, x2, x3, x4⟩ := blk5 k1
    have HG1 := Lib.hid (HG.out.below b1)
    go_wp2_with fail
    refine (check_is 70 A s.al.length c s w1 HG1.out HC.out).mono ?_
    rintro e w2 ⟨rfl, b2⟩
    go_wp2_with fail
    refine (HAw.out _).mono ?_
    rintro e w6 ⟨rfl, b6⟩
    go_wp2_with fail
    go_ret
    exact ⟨rfl, below_step b01 (below_step b2 b6)⟩
  have HC := Lib.hid (chkE_yes hck)
  by_cases hu1 : u < 1
  · clear hck
    go_enter Try.func6, Try.ntmps6
    go_wp2_with fail
    rw [← hV]
    clear hV
    refine HF.out.mono ?_
    rintro e w1 ⟨rfl, b1⟩
    have b01 := below_step bV b1
    have k1 := k0.below b1 k0.lt
    clear x0 x1 x2 x3 x4
    obtain ⟨x0, x1, x2, x3, x4⟩ := blk5 k1
    have HG1 := Lib.hid (HG.out.below b1)
    go_wp2_with fail
    refine (check_is 0 A s.al.length c s w1 HG1.out HC.out).mono ?_
    rintro e w2 ⟨rfl, b2⟩
    go_wp2_with fail
    refine (HAw.out _).mono ?_
    rintro e w6 ⟨rfl, b6⟩
    go_wp2_with fail
    go_ret
    exact ⟨rfl, below_step b01 (below_step b2 b6)⟩
  by_cases hu2 : 100000 < u
  · clear hck
    have hu1' : 1 ≤ u := by omega
    go_enter Try.func6, Try.ntmps6
    go_wp2_with fail
    rw [← hV]
    clear hV
    refine HF.out.mono ?_
    rintro e w1 ⟨rfl, b1⟩
    have b01 := below_step bV b1
    have k1 := k0.below b1 k0.lt
    clear x0 x1 x2 x3 x4
    obtain ⟨x0, x1, x2, x3, x4⟩ := blk5 k1
    have HG1 := Lib.hid (HG.out.below b1)
    go_wp2_with fail
    refine (check_is 0 A s.al.length c s w1 HG1.out HC.out).mono ?_
    rintro e w2 ⟨rfl, b2⟩
    go_wp2_with fail
    refine (HAw.out _).mono ?_
    rintro e w6 ⟨rfl, b6⟩
    go_wp2_with fail
    go_ret
    exact ⟨rfl, below_step b01 (below_step b2 b6)⟩
  have hu1' : 1 ≤ u := by omega
  have hu2' : u ≤ 100000 := by omega
  have HXc := Lib.hid (chkE_yes (walls_chk hck hu1' hu2'))
  have HXo := Lib.hid (walls_opt hck hu1' hu2')
  have hl48 := opt_few (s := s)
  have hxl : (wallsT s u).al.length ≤ 100 := by simp [wallsT]; exact hn
  obtain ⟨x, hx⟩ : ∃ x, x = wallsT s u := ⟨_, rfl⟩
  have HWl : Hid (∀ w', ArgS w' A s.al.length c s → Calls Try.prog 22 #[shV A s.al.length c s, .int .i64 u] w' (NewSh x w')) := fun w' h => by rw [hx]; exact walls_c A _ c s u w' h
  rw [← hx] at HXc HXo hxl
  obtain ⟨l, hl⟩ : ∃ l, l = optL s := ⟨_, rfl⟩
  obtain ⟨m, hm⟩ : ∃ m, m = optL x := ⟨_, rfl⟩
  rw [← hl] at HXo hl48
  rw [← hm] at HXo
  have hml : m.length = l.length := by rw [HXo.out, List.length_map]
  have HOs : Hid (∀ w', ArgS w' A s.al.length c s → Calls Try.prog 16 #[shV A s.al.length c s] w' (NewAl l w')) := fun w' h => by rw [hl]; exact options_c A _ c s w' h
  have HOx : Hid (∀ w' A9 c9, ArgS w' A9 x.al.length c9 x → Calls Try.prog 16 #[shV A9 x.al.length c9 x] w' (fun e w2 => ∃ A1 c1, e = .returned (.slice A1 l.length c1) ∧ Als w2 A1 l.length m ∧ Below w'.heap.size w' w2)) := fun w' A9 c9 h => by rw [← hml, hm]; exact options_c A9 _ c9 x w' h
  have q1 : ((l.length : Int) != (l.length : Int)) = false := by simp
  clear hl hm hml hx hck hu1 hu2
  go_enter Try.func6, Try.ntmps6
  go_wp2_with fail
  rw [← hV]
  clear hV
  refine HF.out.mono ?_
  rintro e w1 ⟨rfl, b1⟩
  have b01 := below_step bV b1
  have k1 := k0.below b1 k0.lt
  clear x0 x1 x2 x3 x4
  obtain ⟨x0, x1, x2, x3, x4⟩ := blk5 k1
  have HG1 := Lib.hid (HG.out.below b1)
  go_wp2_with fail
  refine (check_is 0 A s.al.length c s w1 HG1.out HC.out).mono ?_
  rintro e w2 ⟨rfl, b2⟩
  have b02 := below_step b01 b2
  have k2 := k1.below b2 k1.lt
  have HG2 := Lib.hid (HG1.out.below b2)
  clear x0 x1 x2 x3 x4
  obtain ⟨x0, x1, x2, x3, x4⟩ := blk5 k2
  go_wp2_with fail
  refine (HWl.out w2 HG2.out).mono ?_
  rintro e w3 ⟨A3, c3, rfl, o3, b3⟩
  have b03 := below_step b02 b3
  clear x0 x1 x2 x3 x4
  obtain ⟨U, hU⟩ : ∃ U, U = w3.alloc (shO A3 x.al.length c3 x) := ⟨_, rfl⟩
  have bU : Below w3.heap.size w3 U := by rw [hU]; exact (Below.refl _ _).alloc (Nat.le_refl _) _
  have ksU := (k2.below b3 k2.lt).below bU (Nat.lt_of_lt_of_le k2.lt b3.size)
  have kxU : Blk U w3.heap.size 24 #[.int .i64 x.kd, .slice A3 x.al.length c3, .int .i64 x.mn, .int .i64 x.mx, .int .i64 x.wl] := by rw [hU]; exact Blk.new _ _ _
  have b0U := below_step b03 bU
  have HGs := Lib.hid ((HG2.out.below b3).below bU)
  have HGx := Lib.hid (o3.below bU)
  have HKx := Lib.hid kxU
  have b0 : Below U.heap.size U U.drew := below_drewN (Below.refl _ _) 1
  have HSw : Hid (∀ w', Below U.heap.size U w' → w'.cell? ⟨W.heap.size, 0, none⟩ = some (.int .i64 s.kd) ∧ w'.cell? ⟨W.heap.size, 1, none⟩ = some (.slice A s.al.length c) ∧ w'.cell? ⟨W.heap.size, 2, none⟩ = some (.int .i64 s.mn) ∧ w'.cell? ⟨W.heap.size, 3, none⟩ = some (.int .i64 s.mx) ∧ w'.cell? ⟨W.heap.size, 4, none⟩ = some (.int .i64 s.wl) ∧ w'.cell? ⟨w3.heap.size, 0, none⟩ = some (.int .i64 x.kd) ∧ w'.cell? ⟨w3.heap.size, 1, none⟩ = some (.slice A3 x.al.length c3) ∧ w'.cell? ⟨w3.heap.size, 2, none⟩ = some (.int .i64 x.mn) ∧ w'.cell? ⟨w3.heap.size, 3, none⟩ = some (.int .i64 x.mx) ∧ w'.cell? ⟨w3.heap.size, 4, none⟩ = some (.int .i64 x.wl)) := fun w' bb => by
    obtain ⟨s0, s1, s2, s3, s4⟩ := blk5 (ksU.below bb ksU.lt)
    obtain ⟨y0, y1, y2, y3, y4⟩ := blk5 (kxU.below bb kxU.lt)
    exact ⟨s0, s1, s2, s3, s4, y0, y1, y2, y3, y4⟩
  obtain ⟨x0, x1, x2, x3, x4⟩ := blk5 ksU
  obtain ⟨z0, z1, z2, z3, z4⟩ := blk5 kxU
  clear o3 k0 k1 k2 ksU kxU HF HG HG1 HG2
  go_upto_region 4 with fail
  rw [← hU]
  clear hU
  go_region_held3 (fun w' => w'.cell? ⟨W.heap.size, 0, none⟩ = some (.int .i64 s.kd) ∧ w'.cell? ⟨W.heap.size, 1, none⟩ = some (.slice A s.al.length c) ∧ w'.cell? ⟨W.heap.size, 2, none⟩ = some (.int .i64 s.mn) ∧ w'.cell? ⟨W.heap.size, 3, none⟩ = some (.int .i64 s.mx) ∧ w'.cell? ⟨W.heap.size, 4, none⟩ = some (.int .i64 s.wl) ∧ w'.cell? ⟨w3.heap.size, 0, none⟩ = some (.int .i64 x.kd) ∧ w'.cell? ⟨w3.heap.size, 1, none⟩ = some (.slice A3 x.al.length c3) ∧ w'.cell? ⟨w3.heap.size, 2, none⟩ = some (.int .i64 x.mn) ∧ w'.cell? ⟨w3.heap.size, 3, none⟩ = some (.int .i64 x.mx) ∧ w'.cell? ⟨w3.heap.size, 4, none⟩ = some (.int .i64 x.wl))
    (first | with_reducible exact HSw.out _ b0 | with_reducible exact HSw.out _ b4 | with_reducible exact HSw.out _ b5)
    (first
      | (go_at_call 16; with_reducible refine (HOs.out _ ?_).mono ?_; (with_reducible exact HGs.out.below b0); rintro e w4 ⟨A4, c4, rfl, o4, d4⟩; have b4 : Below U.heap.size U w4 := below_step b0 d4)
      | (go_at_call 16; with_reducible refine (HOx.out _ A3 c3 ?_).mono ?_; (with_reducible exact HGx.out.below b4); rintro e w5 ⟨A5, c5, rfl, o5, d5⟩; have b5 : Below U.heap.size U w5 := below_step b4 d5))
  clear x0 x1 x2 x3 x4 z0 z1 z2 z3 z4
  have k5 := HKx.out.below b5 HKx.out.lt
  obtain ⟨z0, z1, z2, z3, z4⟩ := blk5 k5
  have HL5 := Lib.hid (o4.below d5)
  have HM5 := Lib.hid o5
  clear o4 o5
  go_wp2_with fail
  refine (check_is 0 A3 x.al.length c3 x w5 (HGx.out.below b5) HXc.out).mono ?_
  rintro e w6 ⟨rfl, b6⟩
  have HL6 := Lib.hid (HL5.out.below b6)
  have HM6 := Lib.hid (HM5.out.below b6)
  have b06 := below_step b0U (below_step b5 b6)
  clear z0 z1 z2 z3 z4 k5
  go_wp2_with fail
  go_loopw [8] (fun Y wr => OpRel w6 l Y wr) (fun Y _ => l.length - (intOf Y).toNat)
  case atStart => exact ⟨0, by omega, rfl, Below.refl _ _⟩
  case round =>
    obtain ⟨k, hk, rfl, hbel⟩ := hrel
    by_cases hlt : k < l.length
    · obtain ⟨b, off, a, rfl, hb, ha, d0, d1⟩ := Lst.alt (HL6.out.below hbel) hlt
      obtain ⟨b', off', y, rfl, hb', hy, e0, e1⟩ := Lst.alt (HM6.out.below hbel) hlt
      obtain ⟨h1, h2⟩ := walls_at HXo.out ha hy
      have v1 : (a.nd != y.nd) = false := by rw [h1]; simp
      have v2 : (y.wl != u) = false := by rw [h2]; simp
      clear ha hy h1 h2
      go_wp2_with fail
      go_quiet (fail)
      go_wp2_with fail
      exact ⟨⟨k + 1, by omega, by go_num, below_drewN hbel _⟩, by simp [intOf]; omega⟩
    · obtain rfl : k = l.length := by omega
      go_wp2_with fail
      refine (HAw.out _).mono ?_
      rintro e w9 ⟨rfl, b9⟩
      go_wp2_with fail
      go_ret
      exact ⟨rfl, below_step (below_step b06 hbel) b9⟩
end Go.Proofs.Ythfnmighhoighaa.ShapeW
