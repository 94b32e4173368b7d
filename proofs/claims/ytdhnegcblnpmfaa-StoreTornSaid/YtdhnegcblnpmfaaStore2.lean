/-
  Contracts of muster/store: Write, Arm, Boot, Off, On, Writes, Size, Read.
-/
import Derived.Test.YtdhnegcblnpmfaaStore
namespace Go.Proofs.Ytdhnegcblnpmfaa.StorW
open Go.RowKit Mem Stor
set_option linter.unusedVariables false

/-- blocks that are none of a store's are as they were -/
def KeepS (w w' : World) : Prop := ∀ (k : Nat) (cs : Array Value) (t : TypeId) (fr : Nat × Nat), t ≠ 50 → t ≠ 5 → w.heap[k]? = some (.cells cs t fr) → w'.heap[k]? = some (.cells cs t fr)
theorem KeepS.refl (w : World) : KeepS w w := fun _ _ _ _ _ _ h => h
theorem keepS_of {w w' : World} {g x : Nat} {cs cx : Array Value} (hg : Blk w g 50 cs) (hx : Blk w x 5 cx) (h : ∀ k, k ≠ g → k ≠ x → w'.heap[k]? = w.heap[k]?) : KeepS w w' := by
  intro k c t fr ht ht' hk
  rw [h k ?_ ?_]
  · exact hk
  · rintro rfl; unfold Blk at hg; rw [hg] at hk; injection hk with hk; injection hk with _ h1; exact ht h1.symm
  · rintro rfl; unfold Blk at hx; rw [hx] at hk; injection hk with hk; injection hk with _ h1; exact ht' h1.symm
theorem keepS_of1 {w w' : World} {g : Nat} {cs : Array Value} (hg : Blk w g 50 cs) (h : ∀ k, k ≠ g → w'.heap[k]? = w.heap[k]?) : KeepS w w' := by
  intro k c t fr ht ht' hk
  rw [h k ?_]
  · exact hk
  · rintro rfl; unfold Blk at hg; rw [hg] at hk; injection hk with hk; injection hk with _ h1; exact ht h1.symm
theorem KeepS.blk {w w' : World} {g : Nat} {t : TypeId} {cs : Array Value} (h : KeepS w w') (hb : Blk w g t cs) (h1 : t ≠ 50) (h2 : t ≠ 5) : Blk w' g t cs := h g cs t (0, 0) h1 h2 hb

def IsPost (base g : Nat) (s : Sto) (e : Int) (w : World) (x : Ending) (w' : World) : Prop := x = .returned (.int .i64 e) ∧ Is w' base g s ∧ Below base w w' ∧ KeepS w w'

theorem byteSize : (Try.prog.info? 5).map (·.size) = some 1 := by kernel_rfl

theorem St.row {w : World} {base g : Nat} {s : Sto} {hs : List Nat} {A : Option Addr} {c : Nat} (h : St w base g s hs A c) {i : Nat} (hi : i < s.bs.length) :
    ∃ q x b, A = some ⟨q, 0, none⟩ ∧ w.cell? ⟨q, i, none⟩ = some (hv x) ∧ hs[i]? = some x ∧ s.bs[i]? = some b ∧ base ≤ x ∧ Blk w x 5 (bv b).toArray := by
  obtain ⟨x, hx⟩ : ∃ x, hs[i]? = some x := ⟨_, List.getElem?_eq_getElem (by rw [h.len]; exact hi)⟩
  obtain ⟨b, hb⟩ : ∃ b, s.bs[i]? = some b := ⟨_, List.getElem?_eq_getElem hi⟩
  obtain ⟨h1, h2⟩ := h.data i x b hx hb
  rcases h.own.2 with ⟨_, h0⟩ | ⟨q, cap, cur, hv', _⟩
  · omega
  · injection hv' with hA _ _
    subst hA
    refine ⟨q, x, b, rfl, ?_, hx, hb, h1, h2⟩
    rw [h.own.cellAt i (by omega), List.getElem?_map, hx]
    rfl

/-- one block and the fields are written anew -/
theorem St.block {w w' : World} {base g : Nat} {s s' : Sto} {hs : List Nat} {A : Option Addr} {c : Nat} (h : St w base g s hs A c) {i x : Nat} (hx : hs[i]? = some x) (nb : List UInt8) (hbs : s'.bs = s.bs.set i nb)
    (hg : Blk w' g 50 (flds A s'.bs.length c s')) (hb : Blk w' x 5 (bv nb).toArray) (hk : ∀ k, k ≠ g → k ≠ x → w'.heap[k]? = w.heap[k]?) : St w' base g s' hs A c := by
  have hil : i < s.bs.length := by rw [← h.len]; exact (List.getElem?_eq_some_iff.1 hx).1
  obtain ⟨q, x', b, _, _, hx', hb', hxb, hblk⟩ := h.row hil
  rw [hx] at hx'
  injection hx' with hx'
  subst hx'
  have hl : s'.bs.length = s.bs.length := by rw [hbs]; simp
  refine ⟨h.gb, hg, ?_, by rw [hl]; exact h.len, h.nodup, fun j y b2 h1 h2 => ?_⟩
  · rw [hl]
    refine ⟨h.own.1, ?_⟩
    have hne := own_ne h.own h.blk (by decide)
    have hne2 := own_ne h.own hblk (by decide)
    rcases h.own.2 with h2 | ⟨g', cap, cur, hv', hg', hh, r⟩
    · exact .inl h2
    · refine .inr ⟨g', cap, cur, hv', hg', (hk g' ?_ ?_).trans hh, r⟩
      · rintro rfl; exact hne (by rw [hv']; rfl)
      · rintro rfl; exact hne2 (by rw [hv']; rfl)
  · rw [hbs] at h2
    by_cases hij : i = j
    · subst hij
      rw [hx] at h1
      injection h1 with h1
      subst h1
      rw [List.getElem?_set_self hil] at h2
      injection h2 with h2
      subst h2
      exact ⟨hxb, hb⟩
    · rw [List.getElem?_set_ne hij] at h2
      obtain ⟨h3, h4⟩ := h.data j y b2 h1 h2
      refine ⟨h3, (hk y (blk_ne h4 h.blk (by decide)) ?_).trans h4⟩
      rintro rfl
      exact hij ((List.getElem?_inj (by rw [h.len]; exact hil) h.nodup).1 (by rw [hx, h1]))

theorem blk_cells {w : World} {g : Nat} {A : Option Addr} {n c : Nat} {s : Sto} (h : Blk w g 50 (flds A n c s)) :
    w.cell? ⟨g, 0, none⟩ = some (.slice A n c) ∧ w.cell? ⟨g, 1, none⟩ = some (.bool s.off) ∧ w.cell? ⟨g, 2, none⟩ = some (.int .i64 s.wr) ∧ w.cell? ⟨g, 3, none⟩ = some (.int .i64 s.left) ∧ w.cell? ⟨g, 4, none⟩ = some (.int .i64 s.keep) :=
  ⟨h.cell 0, h.cell 1, h.cell 2, h.cell 3, h.cell 4⟩

theorem reach_zero {s : Sto} {i : Int} (h : reach s i = 0) : s.off = false ∧ 0 ≤ i ∧ i < s.bs.length := by
  unfold reach at h
  split at h
  · omega
  · rename_i ho
    split at h
    · omega
    · exact ⟨by simpa using ho, by omega, by omega⟩

attribute [local go_sem ↓] Go.wp_at_zero Go.wp_at_succ
set_option maxHeartbeats 2000000 in
set_option maxRecDepth 100000 in
theorem write_any (base g : Nat) (s : Sto) (i : Int) (b : ByteArray) (w : World) (h : Is w base g s) (hok : s.Ok) (hw : s.wr < 1000000) (hb : b.size ≤ maxLen) :
    Calls Try.prog 14 #[.pointer (some ⟨g, 0, none⟩), .int .i64 i, .string b] w (IsPost base g (write s i b.data.toList).1 (write s i b.data.toList).2 w) := by
  obtain ⟨hs, A, c, h⟩ := h
  unfold maxLen at hb
  have HR := Lib.hid (reached_any g A c s i w h.blk hok.some_ hok.few)
  by_cases hr : reach s i = 0
  · rw [hr] at HR
    by_cases hl : b.size = 256
    · obtain ⟨hoff, hi0, hi1⟩ := reach_zero hr
      obtain ⟨I, rfl⟩ := Int.eq_ofNat_of_zero_le hi0
      obtain ⟨q, x, ob, rfl, hcq, hx, hob, hbx, hbk⟩ := h.row (show I < s.bs.length by omega)
      have hobl : ob.length = 256 := hok.whole ob (List.mem_of_getElem? hob)
      obtain ⟨c0, c1, c2, c3, c4⟩ := blk_cells h.blk
      have f1 := h.blk.frozen 1
      have f2 := h.blk.frozen 2
      have f3 := h.blk.frozen 3
      have hl0 := hok.l0
      have hl1 := hok.l1
      have hw0 := hok.w0
      have hgd : s.bs.getD I [] = ob := by rw [List.getD_eq_getElem?_getD, hob]; rfl
      have hbl : b.data.toList.length = 256 := by simpa using hl
      have hlb : ((b.size : Int) != 256) = false := by simp [hl]
      have hxg : x ≠ g := blk_ne hbk h.blk (by decide)
      by_cases h1 : s.left = 1
      · -- the armed write
        obtain ⟨K, hK⟩ := Int.eq_ofNat_of_zero_le hok.k0
        have hk1 := hok.k1
        have hqg : q ≠ g := by
          have := own_ne h.own h.blk (by decide)
          intro e
          exact this (by rw [e]; rfl)
        have HF : Hid (write s (I : Int) b.data.toList = (⟨s.bs.set I (b.data.toList.take K ++ ob.drop K), true, s.wr + 1, 0, s.keep⟩, 330)) := by
          show _ = _
          rw [write, if_neg (by simp [hr]), if_neg (by simp [hbl]), if_pos h1, Int.toNat_natCast, hK, Int.toNat_natCast, hgd]
        have hext : (b.extract 0 K).size = K := by
          have := congrArg List.length (Lib.extract_data b 0 K)
          simp at this ⊢
          omega
        obtain ⟨W', hcp, hnb, hoth, hsz, hbel⟩ := copy_blk (P := Try.prog) ((hbk.far (p := ⟨g, 2, none⟩) hxg (.int .i64 (s.wr + 1))).drew) hobl (b.extract 0 K) (by rw [hext]; omega) 79 9 5 Try.underlying79 byteSize
        have hB1 : Blk W' g 50 _ := (hoth g (fun e => hxg e.symm)).trans (h.blk.set 2 (.int .i64 (s.wr + 1))).drew
        have hst : St ((W'.setCell ⟨g, 1, none⟩ (.bool true)).setCell ⟨g, 3, none⟩ (.int .i64 0)) base g ⟨s.bs.set I (b.data.toList.take K ++ ob.drop K), true, s.wr + 1, 0, s.keep⟩ hs (some ⟨q, 0, none⟩) c := by
          refine h.block hx (b.data.toList.take K ++ ob.drop K) rfl ?_ ?_ (fun k hk hk2 => ?_)
          · have := (hB1.set 1 (.bool true)).set 3 (.int .i64 0)
            simpa [flds] using this
          · have e : (b.extract 0 K).data.toList ++ ob.drop (b.extract 0 K).size = b.data.toList.take K ++ ob.drop K := by rw [hext, Lib.extract_data]; simp
            rw [e] at hnb
            exact (hnb.far (p := ⟨g, 1, none⟩) hxg _).far (p := ⟨g, 3, none⟩) hxg _
          · rw [Below.heap_setCell _ _ _ _ hk, Below.heap_setCell _ _ _ _ hk, hoth k hk2]
            exact Below.heap_setCell _ _ _ _ hk
        have hkp : KeepS w ((W'.setCell ⟨g, 1, none⟩ (.bool true)).setCell ⟨g, 3, none⟩ (.int .i64 0)) := keepS_of h.blk hbk (fun k hk hk2 => by
          rw [Below.heap_setCell _ _ _ _ hk, Below.heap_setCell _ _ _ _ hk, hoth k hk2]
          exact Below.heap_setCell _ _ _ _ hk)
        have hbb : Below base w ((W'.setCell ⟨g, 1, none⟩ (.bool true)).setCell ⟨g, 3, none⟩ (.int .i64 0)) := (((((Below.refl base w).setCell (p := ⟨g, 2, none⟩) h.gb _).drew).trans (hbel base hbx)).setCell (p := ⟨g, 1, none⟩) h.gb _).setCell (p := ⟨g, 3, none⟩) h.gb _
        have hcop := hcp 3
        simp only [hv] at hcq hcop
        have d1 : W'.cell? ⟨g, 1, none⟩ = some (.bool s.off) := by rw [hB1.cell 1]; simp [flds]
        have d3 : W'.cell? ⟨g, 3, none⟩ = some (.int .i64 s.left) := by rw [hB1.cell 3]; simp [flds]
        have e1 := hB1.frozen 1
        have e3 := hB1.frozen 3
        have h1b : (s.left == 1) = true := by simpa using h1
        rw [hK] at c4
        have hKi : (K : Int) ≤ 256 := by omega
        have hKb : (K : Int) ≤ (b.size : Int) := by omega
        have hIl : (I : Int) < (s.bs.length : Int) := hi1
        clear hcp hnb hoth hsz hbel hB1 hob hbl hr h1 hgd hok hl hoff hx hK hext
        go_enter Try.func14, Try.ntmps14
        go_wp2_with fail
        refine HR.out.mono ?_
        rintro e w1 ⟨rfl, rfl⟩
        go_wp2_with fail
        go_region
        go_wp2_with fail
        go_ret
        rw [HF.out]
        exact ⟨rfl, ⟨hs, _, c, hst⟩, hbb, hkp⟩
      · obtain ⟨L, hL⟩ : ∃ L, L = max (s.left - 1) 0 := ⟨_, rfl⟩
        have HF : Hid (write s (I : Int) b.data.toList = (⟨s.bs.set I b.data.toList, s.off, s.wr + 1, L, s.keep⟩, 0)) := by
          show _ = _
          rw [write, if_neg (by simp [hr]), if_neg (by simp [hbl]), if_neg h1, Int.toNat_natCast, hL]
        have hlb1 : (s.left == 1) = false := by simpa using h1
        have hqg : q ≠ g := by
          have := own_ne h.own h.blk (by decide)
          intro e
          exact this (by rw [e]; rfl)
        have hB1 := (h.blk.set 2 (.int .i64 (s.wr + 1))).set 3 (.int .i64 L)
        obtain ⟨W', hcp, hnb, hoth, hsz, hbel⟩ := copy_blk (P := Try.prog) ((hbk.far (p := ⟨g, 2, none⟩) hxg (.int .i64 (s.wr + 1))).far (p := ⟨g, 3, none⟩) hxg (.int .i64 L)) hobl b (by omega) 79 9 5 Try.underlying79 byteSize
        have hst : St W' base g ⟨s.bs.set I b.data.toList, s.off, s.wr + 1, L, s.keep⟩ hs (some ⟨q, 0, none⟩) c := by
          refine h.block hx b.data.toList rfl ?_ ?_ (fun k hk hk2 => ?_)
          · have : Blk W' g 50 _ := (hoth g (fun e => hxg e.symm)).trans hB1
            simpa [flds] using this
          · have e : b.data.toList ++ ob.drop b.size = b.data.toList := by rw [List.drop_of_length_le (by omega), List.append_nil]
            rw [e] at hnb
            exact hnb
          · rw [hoth k hk2, Below.heap_setCell _ _ _ _ hk, Below.heap_setCell _ _ _ _ hk]
        have hkp : KeepS w W' := keepS_of h.blk hbk (fun k hk hk2 => by rw [hoth k hk2, Below.heap_setCell _ _ _ _ hk, Below.heap_setCell _ _ _ _ hk])
        have hbb : Below base w W' := (((Below.refl base w).setCell (p := ⟨g, 2, none⟩) h.gb _).setCell (p := ⟨g, 3, none⟩) h.gb _).trans (hbel base hbx)
        have hcop := hcp 3
        simp only [hv] at hcq hcop
        have hLc : (s.left < 1 ∧ L = 0) ∨ (2 ≤ s.left ∧ L = s.left - 1) := by omega
        clear hcp hnb hoth hsz hbel hB1 hob hbl hr h1 hgd hL hok hl hoff hx
        rcases hLc with ⟨hz, rfl⟩ | ⟨hz, rfl⟩
        all_goals
          go_enter Try.func14, Try.ntmps14
          go_wp2_with fail
          refine HR.out.mono ?_
          rintro e w1 ⟨rfl, rfl⟩
          go_wp2_with fail
          go_ret
          rw [HF.out]
          exact ⟨rfl, ⟨hs, _, c, hst⟩, hbb, hkp⟩
    · have HF : Hid (write s i b.data.toList = (s, 2)) := by
        show _ = _
        rw [write, if_neg (by simp [hr]), if_pos (by simpa using hl)]
      have hlb : ((b.size : Int) != 256) = true := by rw [bne_iff_ne]; omega
      clear hr
      go_enter Try.func14, Try.ntmps14
      go_wp2_with fail
      refine HR.out.mono ?_
      rintro e w1 ⟨rfl, rfl⟩
      go_wp2_with fail
      go_ret
      rw [HF.out]
      exact ⟨rfl, ⟨hs, A, c, h⟩, Below.refl _ _, KeepS.refl _⟩
  · have HF : Hid (write s i b.data.toList = (s, reach s i)) := by show _ = _; rw [write, if_pos hr]
    obtain ⟨e0, he0⟩ : ∃ e, e = reach s i := ⟨_, rfl⟩
    rw [← he0] at HR HF hr
    have he1 : (e0 != 0) = true := by simpa using hr
    have he2 : (e0 == 0) = false := by simpa using hr
    clear he0 hr
    go_enter Try.func14, Try.ntmps14
    go_wp2_with fail
    refine HR.out.mono ?_
    rintro e w1 ⟨rfl, rfl⟩
    go_wp2_with fail
    go_ret
    rw [HF.out]
    exact ⟨rfl, ⟨hs, A, c, h⟩, Below.refl _ _, KeepS.refl _⟩

set_option maxHeartbeats 1000000 in
set_option maxRecDepth 100000 in
theorem arm_any (base g : Nat) (s : Sto) (a k : Int) (w : World) (h : Is w base g s) (hok : s.Ok) :
    Calls Try.prog 16 #[.pointer (some ⟨g, 0, none⟩), .int .i64 a, .int .i64 k] w (IsPost base g (arm s a k).1 (arm s a k).2 w) := by
  obtain ⟨hs, A, c, h⟩ := h
  have HR := Lib.hid (reached_any g A c s 0 w h.blk hok.some_ hok.few)
  obtain ⟨c0, c1, c2, c3, c4⟩ := blk_cells h.blk
  have f3 := h.blk.frozen 3
  have f4 := h.blk.frozen 4
  cases hoff : s.off
  · have hr : reach s 0 = 0 := by
      have := hok.some_
      rw [reach, hoff, if_neg (by simp), if_neg (by omega)]
    rw [hr] at HR
    by_cases hbad : a < 1 ∨ k < 0 ∨ 256 < k
    · have HF : Hid (arm s a k = (s, 2)) := by show _ = _; rw [arm, hoff, if_neg (by simp), if_pos hbad]
      have hbad' := hbad
      clear hr hoff hbad
      by_cases g1 : a < 1
      · go_enter Try.func16, Try.ntmps16
        go_wp2_with fail
        refine HR.out.mono ?_
        rintro e w1 ⟨rfl, rfl⟩
        go_wp2_with fail
        go_ret
        rw [HF.out]
        exact ⟨rfl, ⟨hs, A, c, h⟩, Below.refl _ _, KeepS.refl _⟩
      · by_cases g2 : k < 0
        all_goals
          go_enter Try.func16, Try.ntmps16
          go_wp2_with fail
          refine HR.out.mono ?_
          rintro e w1 ⟨rfl, rfl⟩
          go_wp2_with fail
          go_ret
          rw [HF.out]
          exact ⟨rfl, ⟨hs, A, c, h⟩, Below.refl _ _, KeepS.refl _⟩
    · have HF : Hid (arm s a k = (⟨s.bs, s.off, s.wr, a, k⟩, 0)) := by show _ = _; rw [arm, if_neg (by simp [hoff]), if_neg hbad]
      have g1 : 1 ≤ a := by omega
      have g2 : 0 ≤ k := by omega
      have g3 : k ≤ 256 := by omega
      clear hbad hr hoff
      go_enter Try.func16, Try.ntmps16
      go_wp2_with fail
      refine HR.out.mono ?_
      rintro e w1 ⟨rfl, rfl⟩
      go_wp2_with fail
      go_ret
      rw [HF.out]
      refine ⟨rfl, ⟨hs, A, c, h.fields rfl ?_ (fun x hx => ?_)⟩, ((Below.refl base w).setCell (p := ⟨g, 3, none⟩) h.gb _).setCell (p := ⟨g, 4, none⟩) h.gb _, keepS_of1 h.blk (fun x hx => by rw [Below.heap_setCell _ _ _ _ hx, Below.heap_setCell _ _ _ _ hx])⟩
      · have := (h.blk.set 3 (.int .i64 a)).set 4 (.int .i64 k)
        simpa [flds] using this
      · rw [Below.heap_setCell _ _ _ _ hx, Below.heap_setCell _ _ _ _ hx]
  · have hr : reach s 0 = 330 := by rw [reach, hoff, if_pos rfl]
    rw [hr] at HR
    have HF : Hid (arm s a k = (s, 330)) := by show _ = _; rw [arm, hoff, if_pos rfl]
    clear hr hoff
    go_enter Try.func16, Try.ntmps16
    go_wp2_with fail
    refine HR.out.mono ?_
    rintro e w1 ⟨rfl, rfl⟩
    go_wp2_with fail
    go_ret
    rw [HF.out]
    exact ⟨rfl, ⟨hs, A, c, h⟩, Below.refl _ _, KeepS.refl _⟩

set_option maxHeartbeats 1000000 in
theorem power_any (base g : Nat) (s : Sto) (on : Bool) (w : World) (h : Is w base g s) (hok : s.Ok) :
    Calls Try.prog 44 #[.pointer (some ⟨g, 0, none⟩), .bool on] w (IsPost base g (power s on) 0 w) := by
  obtain ⟨hs, A, c, h⟩ := h
  have HM := Lib.hid (made_yes g A _ c s w h.blk hok.some_)
  obtain ⟨c0, c1, c2, c3, c4⟩ := blk_cells h.blk
  have f1 := h.blk.frozen 1
  have f3 := h.blk.frozen 3
  go_enter Try.func44, Try.ntmps44
  go_wp2_with fail
  refine HM.out.mono ?_
  rintro e w1 ⟨rfl, rfl⟩
  go_wp2_with fail
  go_ret
  refine ⟨rfl, ⟨hs, A, c, h.fields rfl ?_ (fun x hx => ?_)⟩, ((Below.refl base w).setCell (p := ⟨g, 1, none⟩) h.gb _).setCell (p := ⟨g, 3, none⟩) h.gb _, keepS_of1 h.blk (fun x hx => by rw [Below.heap_setCell _ _ _ _ hx, Below.heap_setCell _ _ _ _ hx])⟩
  · have := (h.blk.set 1 (.bool (!on))).set 3 (.int .i64 0)
    simpa [flds, power] using this
  · rw [Below.heap_setCell _ _ _ _ hx, Below.heap_setCell _ _ _ _ hx]
theorem boot_any (base g : Nat) (s : Sto) (w : World) (h : Is w base g s) (hok : s.Ok) :
    Calls Try.prog 21 #[.pointer (some ⟨g, 0, none⟩)] w (IsPost base g (power s true) 0 w) := by
  go_enter Try.func21, Try.ntmps21
  go_wp2_with fail
  refine (power_any base g s true w h hok).mono ?_
  rintro e w1 ⟨rfl, h1, h2, h3⟩
  go_wp2_with fail
  go_ret
  exact ⟨rfl, h1, h2, h3⟩
theorem off_any (base g : Nat) (s : Sto) (w : World) (h : Is w base g s) (hok : s.Ok) :
    Calls Try.prog 27 #[.pointer (some ⟨g, 0, none⟩)] w (IsPost base g (power s false) 0 w) := by
  go_enter Try.func27, Try.ntmps27
  go_wp2_with fail
  refine (power_any base g s false w h hok).mono ?_
  rintro e w1 ⟨rfl, h1, h2, h3⟩
  go_wp2_with fail
  go_ret
  exact ⟨rfl, h1, h2, h3⟩
theorem on_any (base g : Nat) (s : Sto) (w : World) (h : Is w base g s) (hok : s.Ok) :
    Calls Try.prog 19 #[.pointer (some ⟨g, 0, none⟩)] w fun e w' => e = .returned (.bool (!s.off)) ∧ w = w' := by
  obtain ⟨hs, A, c, h⟩ := h
  have HM := Lib.hid (made_yes g A _ c s w h.blk hok.some_)
  have HP := Lib.hid (powered_any g A _ c s w h.blk)
  go_enter Try.func19, Try.ntmps19
  go_wp2_with fail
  refine HM.out.mono ?_
  rintro e w1 ⟨rfl, rfl⟩
  go_wp2_with fail
  refine HP.out.mono ?_
  rintro e w1 ⟨rfl, rfl⟩
  go_wp2_with fail
  go_ret
  exact ⟨rfl, rfl⟩
theorem writes_any (base g : Nat) (s : Sto) (w : World) (h : Is w base g s) (hok : s.Ok) :
    Calls Try.prog 20 #[.pointer (some ⟨g, 0, none⟩)] w fun e w' => e = .returned (.int .i64 s.wr) ∧ w = w' := by
  obtain ⟨hs, A, c, h⟩ := h
  have HM := Lib.hid (made_yes g A _ c s w h.blk hok.some_)
  obtain ⟨c0, c1, c2, c3, c4⟩ := blk_cells h.blk
  go_enter Try.func20, Try.ntmps20
  go_wp2_with fail
  refine HM.out.mono ?_
  rintro e w1 ⟨rfl, rfl⟩
  go_wp2_with fail
  go_ret
  exact ⟨rfl, rfl⟩
theorem size_any (base g : Nat) (s : Sto) (w : World) (h : Is w base g s) (hok : s.Ok) :
    Calls Try.prog 24 #[.pointer (some ⟨g, 0, none⟩)] w fun e w' => e = .returned (.int .i64 s.bs.length) ∧ w = w' := by
  obtain ⟨hs, A, c, h⟩ := h
  have HM := Lib.hid (made_yes g A _ c s w h.blk hok.some_)
  obtain ⟨c0, c1, c2, c3, c4⟩ := blk_cells h.blk
  go_enter Try.func24, Try.ntmps24
  go_wp2_with fail
  refine HM.out.mono ?_
  rintro e w1 ⟨rfl, rfl⟩
  go_wp2_with fail
  go_ret
  exact ⟨rfl, rfl⟩

def str (l : List UInt8) : ByteArray := ⟨l.toArray⟩
theorem str_data (l : List UInt8) : (str l).data.toList = l := rfl
theorem str_size (l : List UInt8) : (str l).size = l.length := by simp [str, ByteArray.size]
theorem str_of (s : ByteArray) : str s.data.toList = s := by simp [str]
theorem str_inj {l m : List UInt8} (h : str l = str m) : l = m := by rw [← str_data l, h, str_data]

theorem blk_byts {w : World} {g : Nat} {T : TypeId} {b : List UInt8} (h : Blk w g T (bv b).toArray) : Byts w g b :=
  ⟨h.lt, fun i c hc => ⟨by rw [h.cell i]; simp [bv, hc], h.frozen i⟩⟩

set_option maxHeartbeats 1000000 in
theorem read_any (base g : Nat) (s : Sto) (i : Int) (w : World) (h : Is w base g s) (hok : s.Ok) :
    Calls Try.prog 26 #[.pointer (some ⟨g, 0, none⟩), .int .i64 i] w fun e w' => e = .returned (.tuple #[.string (str (readS s i).1), .int .i64 (readS s i).2]) ∧ w = w' := by
  obtain ⟨hs, A, c, h⟩ := h
  have HR := Lib.hid (reached_any g A c s i w h.blk hok.some_ hok.few)
  by_cases hr : reach s i = 0
  · rw [hr] at HR
    obtain ⟨hoff, hi0, hi1⟩ := reach_zero hr
    obtain ⟨I, rfl⟩ := Int.eq_ofNat_of_zero_le hi0
    obtain ⟨q, x, ob, rfl, hcq, hx, hob, hbx, hbk⟩ := h.row (show I < s.bs.length by omega)
    have hobl : ob.length = 256 := hok.whole ob (List.mem_of_getElem? hob)
    obtain ⟨c0, c1, c2, c3, c4⟩ := blk_cells h.blk
    have hgd : s.bs.getD I [] = ob := by rw [List.getD_eq_getElem?_getD, hob]; rfl
    have HF : Hid (readS s (I : Int) = (ob, 0)) := by
      show _ = _
      rw [readS, if_neg (by simp [hr]), Int.toNat_natCast, hgd]
    have hback := (blk_byts hbk).back (P := Try.prog) 79 9 5 256 256 hobl.symm Try.underlying79 Try.underlying5 Try.underlying9
    simp only [hv] at hcq
    clear hgd hob hr hoff hok hx
    go_enter Try.func26, Try.ntmps26
    go_wp2_with fail
    refine HR.out.mono ?_
    rintro e w1 ⟨rfl, rfl⟩
    go_wp2_with fail
    go_ret2
    exact ⟨by rw [HF.out]; rfl, rfl⟩
  · have HF : Hid (readS s i = ([], reach s i)) := by show _ = _; rw [readS, if_pos hr]
    obtain ⟨e0, he0⟩ : ∃ e, e = reach s i := ⟨_, rfl⟩
    rw [← he0] at HR HF hr
    have he1 : (e0 != 0) = true := by simpa using hr
    have he2 : (e0 == 0) = false := by simpa using hr
    clear he0 hr
    go_enter Try.func26, Try.ntmps26
    go_wp2_with fail
    refine HR.out.mono ?_
    rintro e w1 ⟨rfl, rfl⟩
    go_wp2_with fail
    go_ret2
    exact ⟨by rw [HF.out]; rfl, rfl⟩
end Go.Proofs.Ytdhnegcblnpmfaa.StorW
