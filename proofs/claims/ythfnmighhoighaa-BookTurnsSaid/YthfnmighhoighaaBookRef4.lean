/-
  The document's way to drop reservations, as plain data, and the contract of musterref19.Drop.
-/
import Derived.Test.YthfnmighhoighaaBookRef3
namespace Go.Proofs.Ythfnmighhoighaa.BookW
open Go.RowKit Mem Prof Book ProfW
set_option linter.unusedVariables false
set_option linter.unusedSimpArgs false

def Good (l : List Bk) (ids : List Int) : Prop := ids.Nodup ∧ ∀ x ∈ ids, ∃ b ∈ l, b.id = x
theorem dropOne_len (l : List Bk) (id : Int) : (dropOne l id).length = l.length ↔ ∀ b ∈ l, b.id ≠ id := by
  unfold dropOne
  rw [List.length_filter_eq_length_iff]
  simp
theorem mem_dropOne {l : List Bk} {id : Int} {b : Bk} : b ∈ dropOne l id ↔ b ∈ l ∧ b.id ≠ id := by
  unfold dropOne
  simp
theorem dropL_good : ∀ (ids : List Int) (l : List Bk), Good l ids → dropL l ids = some (l.filter fun b => !ids.contains b.id)
  | [], l, _ => by
    show some l = _
    congr 1
    exact (List.filter_eq_self.2 (by simp)).symm
  | id :: r, l, ⟨hn, hm⟩ => by
    obtain ⟨hn1, hn2⟩ := List.nodup_cons.1 hn
    have h1 : ¬ (dropOne l id).length = l.length := by
      rw [dropOne_len]
      intro h
      obtain ⟨b, hb, e⟩ := hm id (by simp)
      exact h b hb e
    unfold dropL
    rw [if_neg h1, dropL_good r (dropOne l id) ⟨hn2, fun x hx => ?_⟩]
    · congr 1
      unfold dropOne
      rw [List.filter_filter]
      congr 1
      funext b
      simp only [List.contains_cons, Bool.not_or, bne, Bool.and_comm]
    · obtain ⟨b, hb, e⟩ := hm x (by simp [hx])
      exact ⟨b, mem_dropOne.2 ⟨hb, fun h => hn1 (by rw [← h, e]; exact hx)⟩, e⟩
theorem dropL_bad : ∀ (ids : List Int) (l : List Bk), ¬ Good l ids → dropL l ids = none
  | [], l, h => absurd ⟨List.nodup_nil, by simp⟩ h
  | id :: r, l, h => by
    unfold dropL
    split
    · rfl
    · rename_i h1
      refine dropL_bad r (dropOne l id) (fun g => h ⟨?_, ?_⟩)
      · refine List.nodup_cons.2 ⟨fun hin => ?_, g.1⟩
        obtain ⟨b, hb, e⟩ := g.2 id hin
        exact (mem_dropOne.1 hb).2 e
      · intro x hx
        rcases List.mem_cons.1 hx with rfl | hx
        · apply Classical.byContradiction
          intro hno
          refine h1 ((dropOne_len l x).2 fun b hb e => hno ⟨b, hb, e⟩)
        · obtain ⟨b, hb, e⟩ := g.2 x hx
          exact ⟨b, (mem_dropOne.1 hb).1, e⟩
/-- the k-th number is one of theirs, and none of those ahead -/
def OkId (l : List Bk) (ids : List Int) (k : Nat) : Prop := ∀ x, ids[k]? = some x → (∃ b ∈ l, b.id = x) ∧ ∀ y ∈ ids.take k, y ≠ x
theorem good_of {l : List Bk} {ids : List Int} (h : ∀ k, k < ids.length → OkId l ids k) : Good l ids := by
  refine ⟨List.pairwise_iff_getElem.2 fun i j hi hj hij e => ?_, fun x hx => ?_⟩
  · have := (h j hj _ (List.getElem?_eq_getElem hj)).2 ids[i] (List.mem_take_iff_getElem.2 ⟨i, by omega, rfl⟩)
    exact this e
  · obtain ⟨k, hk⟩ := List.mem_iff_getElem?.1 hx
    exact (h k (List.getElem?_eq_some_iff.1 hk).1 x hk).1
theorem bad_of {l : List Bk} {ids : List Int} {k : Nat} {x : Int} (hx : ids[k]? = some x) (h : (∀ b ∈ l, b.id ≠ x) ∨ ∃ y ∈ ids.take k, y = x) : ¬ Good l ids := by
  rintro ⟨h1, h2⟩
  obtain ⟨hk, rfl⟩ := List.getElem?_eq_some_iff.1 hx
  rcases h with h | ⟨y, hy, e⟩
  · obtain ⟨b, hb, e⟩ := h2 _ (List.getElem_mem hk)
    exact h b hb e
  · obtain ⟨j, hj, rfl⟩ := List.mem_take_iff_getElem.1 hy
    exact List.pairwise_iff_getElem.1 h1 j k (by omega) hk (by omega) e
theorem okId_of {l : List Bk} {ids : List Int} {k : Nat} {x : Int} (hx : ids[k]? = some x) (h : ¬ ((∀ b ∈ l, b.id ≠ x) ∨ ∃ y ∈ ids.take k, y = x)) : OkId l ids k := by
  intro z hz
  rw [hx] at hz
  injection hz with hz
  subst hz
  refine ⟨?_, fun y hy e => h (.inr ⟨y, hy, e⟩)⟩
  apply Classical.byContradiction
  intro hn
  exact h (.inl fun b hb e => hn ⟨b, hb, e⟩)
theorem allL {P : Nat → Prop} {k : Nat} (h : ∀ j, j < k → P j) (hk : P k) : ∀ j, j < k + 1 → P j := fun j hj => by
  rcases Nat.lt_or_ge j k with h' | h'
  · exact h j h'
  · obtain rfl : j = k := by omega
    exact hk
def RDRel (w : World) (l : List Bk) (ids : List Int) (Y : Value) (wr : World) : Prop := ∃ k : Nat, k ≤ ids.length ∧ Y = .int .i64 k ∧ (∀ j, j < k → OkId l ids j) ∧ Below w.heap.size w wr
def RDRelA (wo : World) (l : List Bk) (x : Int) (M K : Value) (wr : World) : Prop := ∃ (j c : Nat), j ≤ l.length ∧ c ≤ j ∧ M = .int .i64 c ∧ K = .int .i64 j ∧ (c = 0 ↔ ∀ b ∈ l.take j, b.id ≠ x) ∧ Below wo.heap.size wo wr
def RDRelB (wo : World) (l : List Bk) (ids : List Int) (k : Nat) (x : Int) (M K : Value) (wr : World) : Prop := ∃ (j c : Nat), j ≤ k ∧ c ≤ 8 ∧ M = .int .i64 c ∧ K = .int .i64 j ∧ (c = 0 ↔ ((∀ b ∈ l, b.id ≠ x) ∨ ∃ y ∈ ids.take j, y = x)) ∧ Below wo.heap.size wo wr
theorem relA_eq {l : List Bk} {x : Int} {j c : Nat} {s : Bk} (h : c = 0 ↔ ∀ b ∈ l.take j, b.id ≠ x) (hs : l[j]? = some s) (e : s.id = x) : c + 1 = 0 ↔ ∀ b ∈ l.take (j + 1), b.id ≠ x := by
  rw [take_snoc_some hs]
  constructor
  · omega
  · intro h
    exact absurd e (h s (by simp))
theorem relA_ne {l : List Bk} {x : Int} {j c : Nat} {s : Bk} (h : c = 0 ↔ ∀ b ∈ l.take j, b.id ≠ x) (hs : l[j]? = some s) (e : s.id ≠ x) : c = 0 ↔ ∀ b ∈ l.take (j + 1), b.id ≠ x := by
  rw [take_snoc_some hs, h]
  constructor
  · intro g b hb
    rcases List.mem_append.1 hb with hb | hb
    · exact g b hb
    · simp at hb; subst hb; exact e
  · intro g b hb
    exact g b (by simp [hb])
theorem relB_eq {P : Prop} {ids : List Int} {x y : Int} {j c : Nat} (hs : ids[j]? = some y) (e : y = x) : P ∨ ∃ z ∈ ids.take (j + 1), z = x := by
  rw [take_snoc_some hs]
  exact .inr ⟨y, by simp, e⟩
theorem relB_ne {P : Prop} {ids : List Int} {x y : Int} {j c : Nat} (h : c = 0 ↔ (P ∨ ∃ z ∈ ids.take j, z = x)) (hs : ids[j]? = some y) (e : y ≠ x) : c = 0 ↔ (P ∨ ∃ z ∈ ids.take (j + 1), z = x) := by
  rw [take_snoc_some hs, h]
  constructor
  · rintro (g | ⟨z, hz, g⟩)
    · exact .inl g
    · exact .inr ⟨z, by simp [hz], g⟩
  · rintro (g | ⟨z, hz, g⟩)
    · exact .inl g
    · rcases List.mem_append.1 hz with hz | hz
      · exact .inr ⟨z, hz, g⟩
      · simp at hz; subst hz; exact absurd g e
def KeepRel (wo : World) (ids : List Int) (id : Int) (M K : Value) (wr : World) : Prop := ∃ j : Nat, j ≤ ids.length ∧ M = .bool (!(ids.take j).contains id) ∧ K = .int .i64 j ∧ Below wo.heap.size wo wr
theorem keep_snoc {ids : List Int} {id y : Int} {j : Nat} (hs : ids[j]? = some y) : (!(ids.take (j + 1)).contains id) = ((!(ids.take j).contains id) && (y != id)) := by
  rw [take_snoc_some hs]
  simp only [List.contains_append, Bool.not_or, List.contains_cons, List.contains_nil, Bool.or_false, bne]
  congr 2
  rw [Bool.eq_iff_iff, beq_iff_eq, beq_iff_eq]
  exact eq_comm
def RDRel4 (w : World) (l : List Bk) (ids : List Int) (X Y : Value) (wr : World) : Prop :=
  ∃ (k : Nat) (A : Option Addr) (n c : Nat), k ≤ l.length ∧ X = .slice A n c ∧ Y = .int .i64 k ∧ n ≤ k ∧ BksO wr w.heap.size A n c ((l.take k).filter (fun b => !ids.contains b.id)) ∧ Below w.heap.size w wr
set_option maxHeartbeats 2000000 in
set_option maxRecDepth 100000 in
theorem rdrop_any (A : Option Addr) (n c : Nat) (l : List Bk) (I : Option Addr) (m d : Nat) (ids : List Int) (w : World) (h : Bks w A n l) (hn : n ≤ maxLen) (g : Ints w I m ids) (hm : m ≤ maxLen) :
    Calls Try.prog 33 #[.slice A n c, .slice I m d] w (BPost (dropT l ids) w) := by
  have hlen := h.len
  subst hlen
  have hil := g.len
  subst hil
  unfold maxLen at hm
  have HCk := Lib.hid (rbcheck_any A l.length c l w h hn)
  cases hck : Book.chk l
  · rw [Book.chkE_no hck] at HCk
    have HP : Hid (dropT l ids = ([], 190)) := by show _ = _; rw [dropT, if_pos hck]
    clear hck h g
    go_enter Try.func33, Try.ntmps33
    go_wp2_with fail
    refine HCk.out.mono ?_
    rintro e w1 ⟨rfl, b1⟩
    go_wp2_with fail
    go_ret2
    rw [HP.out]
    exact ⟨none, 0, rfl, SOwn.nil _ _ _ _, b1⟩
  · rw [Book.chkE_yes hck] at HCk
    have hfew := (chk_of hck).few
    have HP := Lib.hid hck
    have HH := Lib.hid h
    have HG := Lib.hid g
    clear hck h g
    go_enter Try.func33, Try.ntmps33
    go_wp2_with fail
    refine HCk.out.mono ?_
    rintro e w1 ⟨rfl, b1⟩
    go_wp2_with fail
    go_loopw [6] (fun Y wr => RDRel w l ids Y wr) (fun Y _ => ids.length - (intOf Y).toNat)
    case atStart => exact ⟨0, by omega, rfl, by omega, b1⟩
    case round =>
      obtain ⟨k, hk, rfl, hall, hbel⟩ := hrel
      have HAll := Lib.hid hall
      clear hall
      by_cases hlt : k < ids.length
      · obtain ⟨bi, offi, x, rfl, hbi, hx, dx⟩ := Lst.int (HG.out.below hbel) hlt
        have HX := Lib.hid hx
        obtain ⟨wo, rfl⟩ : ∃ wo : World, wo = wr := ⟨_, rfl⟩
        clear hx
        go_wp2_with fail
        go_loopw [7, 8] (fun M K wr => RDRelA wo l x M K wr) (fun _ K _ => l.length - (intOf K).toNat)
        case atStart => exact ⟨0, 0, by omega, by omega, rfl, rfl, by simp, Below.refl _ _⟩
        case round =>
          obtain ⟨j, cc, hj, hcj, rfl, rfl, hcc, hb2⟩ := hrel
          have HCc := Lib.hid hcc
          clear hcc
          have b02 := below_step hbel hb2
          have dx2 := (hb2.cell (p := ⟨bi, offi + k, none⟩) hbi).trans dx
          have hki : (k : Int) < (ids.length : Int) := by omega
          by_cases hjl : j < l.length
          · obtain ⟨b, off, s, rfl, hb, hs, d0, d1, d2, d3⟩ := Lst.four (HH.out.below b02) hjl
            have hji : (j : Int) < (l.length : Int) := by omega
            by_cases hE : s.id = x
            · have e1 : (s.id == x) = true := by simpa using hE
              have HN := Lib.hid (relA_eq HCc.out hs hE)
              clear hs hE
              go_wp2_with fail
              go_quiet (fail)
              go_wp2_with fail
              exact ⟨⟨j + 1, cc + 1, by omega, by omega, by go_num, by go_num, HN.out, below_drewN hb2 _⟩, by simp [intOf]; omega⟩
            · have e1 : (s.id == x) = false := by simpa using hE
              have HN := Lib.hid (relA_ne HCc.out hs hE)
              clear hs hE
              go_wp2_with fail
              go_quiet (fail)
              go_wp2_with fail
              exact ⟨⟨j + 1, cc, by omega, by omega, rfl, by go_num, HN.out, below_drewN hb2 _⟩, by simp [intOf]; omega⟩
          · obtain rfl : j = l.length := by omega
            have hcc := HCc.out
            rw [List.take_length] at hcc
            have HC0 := Lib.hid hcc
            clear hcc HCc dx2
            obtain ⟨w2, rfl⟩ : ∃ w2 : World, w2 = wr := ⟨_, rfl⟩
            go_wp2_with fail
            go_loopw [7, 9] (fun M K wr => RDRelB w2 l ids k x M K wr) (fun _ K _ => k - (intOf K).toNat)
            case atStart => exact ⟨0, cc, by omega, by omega, rfl, rfl, by rw [HC0.out]; simp, Below.refl _ _⟩
            case round =>
              obtain ⟨j, cc, hj, hc8, rfl, rfl, hcc, hb3⟩ := hrel
              have HCc := Lib.hid hcc
              clear hcc
              have b03 := below_step b02 hb3
              have dx3 := ((below_step hb2 hb3).cell (p := ⟨bi, offi + k, none⟩) hbi).trans dx
              by_cases hjl : j < k
              · obtain ⟨b', off', y, e', hb', hy, dy⟩ := Lst.int (HG.out.below b03) (show j < ids.length by omega)
                injection e' with e'
                injection e' with e1 e2
                subst e1 e2
                have hji : (j : Int) < (ids.length : Int) := by omega
                by_cases hE : y = x
                · have e1 : (y == x) = true := by simpa using hE
                  have HN := Lib.hid (relB_eq (P := ∀ b ∈ l, b.id ≠ x) (c := cc) hy hE)
                  clear hy hE
                  go_wp2_with fail
                  go_quiet (fail)
                  go_wp2_with fail
                  exact ⟨⟨j + 1, 0, by omega, by omega, rfl, by go_num, ⟨fun _ => HN.out, fun _ => rfl⟩, below_drewN hb3 _⟩, by simp [intOf]; omega⟩
                · have e1 : (y == x) = false := by simpa using hE
                  have HN := Lib.hid (relB_ne HCc.out hy hE)
                  clear hy hE
                  go_wp2_with fail
                  go_quiet (fail)
                  go_wp2_with fail
                  exact ⟨⟨j + 1, cc, by omega, by omega, rfl, by go_num, HN.out, below_drewN hb3 _⟩, by simp [intOf]; omega⟩
              · obtain rfl : j = k := by omega
                by_cases h0 : cc = 0
                · have HF : Hid (dropT l ids = ([], 190)) := dropT_none HP.out (dropL_bad ids l (bad_of HX.out (HCc.out.1 h0)))
                  subst h0
                  clear dx3
                  go_wp2_with fail
                  go_ret2
                  rw [HF.out]
                  exact ⟨none, 0, rfl, SOwn.nil _ _ _ _, b03⟩
                · have e0 : ((cc : Int) == 0) = false := by simp; omega
                  have e0' : (cc == 0) = false := by simpa using h0
                  have HN := Lib.hid (allL HAll.out (okId_of HX.out (fun q => h0 (HCc.out.2 q))))
                  clear h0 dx3
                  go_wp2_with fail
                  exact ⟨⟨j + 1, by omega, by go_num, HN.out, b03⟩, by simp [intOf]; omega⟩
      · obtain rfl : k = ids.length := by omega
        have HF : Hid (dropT l ids = (l.filter (fun b => !ids.contains b.id), 0)) := dropT_some HP.out (dropL_good ids l (good_of HAll.out))
        clear HAll
        go_wp2_with fail
        go_loopw [10, 11] (fun X Y wr => RDRel4 w l ids X Y wr) (fun _ Y _ => l.length - (intOf Y).toNat)
        case atStart => exact ⟨0, none, 0, 0, by omega, rfl, rfl, by omega, SOwn.nil _ _ _ _, hbel⟩
        case round =>
          obtain ⟨k, A1, n1, c1, hk, rfl, rfl, hnk, ho, hbel⟩ := hrel
          have HO := Lib.hid ho
          clear ho
          by_cases hlt : k < l.length
          · obtain ⟨b, off, s, rfl, hb, hs, d0, d1, d2, d3⟩ := Lst.four (HH.out.below hbel) hlt
            have HS := Lib.hid hs
            clear hs
            have hki : (k : Int) < (l.length : Int) := by omega
            obtain ⟨wo, rfl⟩ : ∃ wo : World, wo = wr := ⟨_, rfl⟩
            go_wp2_with fail
            go_loopw [12, 13] (fun M K wr => KeepRel wo ids s.id M K wr) (fun _ K _ => ids.length - (intOf K).toNat)
            case atStart => exact ⟨0, by omega, by simp, rfl, Below.refl _ _⟩
            case round =>
              obtain ⟨j, hj, rfl, rfl, hb2⟩ := hrel
              have b02 := below_step hbel hb2
              have e0 := (hb2.cell (p := ⟨b, off + k * 4, none⟩) hb).trans d0
              have e1 := (hb2.cell (p := ⟨b, off + k * 4 + 1, none⟩) hb).trans d1
              have e2 := (hb2.cell (p := ⟨b, off + k * 4 + 2, none⟩) hb).trans d2
              have e3 := (hb2.cell (p := ⟨b, off + k * 4 + 3, none⟩) hb).trans d3
              by_cases hjl : j < ids.length
              · obtain ⟨bi, offi, y, rfl, hbi, hy, dy⟩ := Lst.int (HG.out.below b02) hjl
                have HK := Lib.hid (keep_snoc (id := s.id) hy)
                have hji : (j : Int) < (ids.length : Int) := by omega
                clear hy
                cases hkp : (!(ids.take j).contains s.id)
                · rw [hkp, Bool.false_and] at HK
                  clear hkp
                  go_wp2_with fail
                  go_quiet (fail)
                  go_wp2_with fail
                  exact ⟨⟨j + 1, by omega, by rw [HK.out], by go_num, below_drewN hb2 _⟩, by simp [intOf]; omega⟩
                · rw [hkp, Bool.true_and] at HK
                  clear hkp
                  go_wp2_with fail
                  go_quiet (fail)
                  go_wp2_with fail
                  exact ⟨⟨j + 1, by omega, by rw [HK.out], by go_num, below_drewN hb2 _⟩, by simp [intOf]; omega⟩
              · obtain rfl : j = ids.length := by omega
                rw [List.take_length]
                have HFs := Lib.hid (filter_snoc (q := fun b => !ids.contains b.id) HS.out)
                cases hkp : (!ids.contains s.id)
                · rw [hkp, if_neg (by simp), List.append_nil] at HFs
                  clear hkp
                  go_wp2_with fail
                  exact ⟨⟨k + 1, A1, n1, c1, by omega, rfl, by go_num, by omega, by rw [HFs.out]; exact HO.out.below hb2, b02⟩, by simp [intOf]; omega⟩
                · rw [hkp, if_pos rfl] at HFs
                  clear hkp
                  obtain ⟨V, hV⟩ : ∃ V, V = wr.alloc (.cells #[.int .i64 s.id, .int .i64 s.fr, .int .i64 s.to, .int .i64 s.nd] 42) := ⟨_, rfl⟩
                  have bV : Below wr.heap.size wr V := by rw [hV]; exact (Below.refl _ _).alloc (Nat.le_refl _) _
                  have sV : Bks V (some ⟨wr.heap.size, 0, none⟩) 1 [s] := by rw [hV]; exact Lst.new layB wr s #[.int .i64 s.id, .int .i64 s.fr, .int .i64 s.to, .int .i64 s.nd] 42 rfl
                  obtain ⟨A2, c2, w2, hrun, o2, b2, _, _⟩ := app_s layB (P := Try.prog) V w.heap.size 40 40 42 _ 32 Try.underlying40 bookInfo rfl A1 n1 c1 _ ((HO.out.below hb2).below bV) (some ⟨wr.heap.size, 0, none⟩) 1 1 [s] sV (by simp only [maxLen]; omega) (by omega) (Nat.le_trans b02.size bV.size)
                  rw [← HFs.out] at o2
                  have HR := Lib.hid hrun
                  have HO2 := Lib.hid o2
                  rw [hV] at HR
                  have b03 := (below_step b02 bV).trans b2
                  clear hrun o2 sV hV
                  go_wp2_with (at_builtin; refine wpList_app2 rfl _ _ rfl rfl rfl HR.out ?_)
                  exact ⟨⟨k + 1, A2, n1 + 1, c2, by omega, rfl, by go_num, by omega, HO2.out, b03⟩, by simp [intOf]; omega⟩
          · obtain rfl : k = l.length := by omega
            have ho := HO.out
            rw [List.take_length] at ho
            have hln := ho.1
            have HFn := Lib.hid ho
            have HLn := Lib.hid hln
            clear ho hln
            go_wp2_with fail
            go_ret2
            rw [HF.out]
            unfold BPost
            rw [HLn.out]
            exact ⟨A1, c1, rfl, HFn.out, hbel⟩
end Go.Proofs.Ythfnmighhoighaa.BookW
