/-
  Contracts of muster/alloc: Notes, sends; musterref13.Notes.
-/
import Derived.Test.YtdamocjbkdknaaaAllocSet2
import Derived.Test.YtdamocjbkdknaaaFleetRNote
namespace Go.Proofs.Ytdamocjbkdknaaa.FleetW
open Go.RowKit Mem Fleet
set_option linter.unusedVariables false
set_option linter.unusedSimpArgs false
set_option linter.unnecessarySimpa false

def ntRow (x : Nt) : List Value := [.int .i64 x.kd, .int .i64 x.nd, .int .i64 x.jb, .int .i64 x.ep]
abbrev Nts := Lst ntRow 4
abbrev NtsO := SOwn ntRow 4
theorem layT : Lay ntRow 4 := ⟨fun _ => rfl, fun x u hu => by simp [ntRow] at hu; rcases hu with rfl | rfl | rfl | rfl <;> rfl, by omega⟩
theorem noteInfo : (Try.prog.info? 31).map (fun i => (i.zero, i.size, i.bytes)) = some (some (.agg #[.int .i64 0, .int .i64 0, .int .i64 0, .int .i64 0]), 4, 32) := by kernel_rfl
def noteO (l : List Nd) (n : Int) : List Nt := if (noteT l n).2 then [(noteT l n).1] else []
def notesT (l : List Nd) (nodes : List Int) : List Nt := nodes.flatMap (noteO l)
theorem notesT_snoc {l : List Nd} {nodes : List Int} {k : Nat} {n : Int} (h : nodes[k]? = some n) : notesT l (nodes.take (k + 1)) = notesT l (nodes.take k) ++ noteO l n := by
  unfold notesT
  rw [take_snoc_some h, List.flatMap_append]
  simp
theorem notesT_len (l : List Nd) : ∀ nodes : List Int, (notesT l nodes).length ≤ nodes.length
  | [] => by simp [notesT]
  | n :: r => by
    have := notesT_len l r
    unfold notesT at this ⊢
    rw [List.flatMap_cons, List.length_append, List.length_cons]
    have : (noteO l n).length ≤ 1 := by unfold noteO; split <;> simp
    omega
/-- notes, made new -/
def NewT (l : List Nt) (w : World) (e : Ending) (w' : World) : Prop := ∃ A c, e = .returned (.slice A l.length c) ∧ NtsO w' w.heap.size A l.length c l ∧ Below w.heap.size w w'
def NtRel (w : World) (l : List Nd) (nodes : List Int) (X Y : Value) (wr : World) : Prop := ∃ (k : Nat) (A : Option Addr) (n c : Nat), k ≤ nodes.length ∧ X = .slice A n c ∧ Y = .int .i64 k ∧ n ≤ k ∧ NtsO wr w.heap.size A n c (notesT l (nodes.take k)) ∧ Below w.heap.size w wr
set_option maxHeartbeats 2000000 in
set_option maxRecDepth 100000 in
theorem notes_any (A : Option Addr) (n c : Nat) (l : List Nd) (I : Option Addr) (m d : Nat) (nodes : List Int) (w : World) (h : Nds w A n l) (hn : n ≤ maxLen) (g : Ints w I m nodes) (hm : m ≤ 1000) :
    Calls Try.prog 41 #[.slice A n c, .slice I m d] w (NewT (notesT l nodes) w) := by
  have hlen := h.len
  subst hlen
  have hil := g.len
  subst hil
  have HH := Lib.hid h
  have HG := Lib.hid g
  clear h g
  go_enter Try.func41, Try.ntmps41
  go_wp2_with fail
  go_loopw [5, 12] (fun X Y wr => NtRel w l nodes X Y wr) (fun _ Y _ => nodes.length - (intOf Y).toNat)
  case atStart => exact ⟨0, none, 0, 0, by omega, rfl, rfl, by omega, SOwn.nil _ _ _ _, Below.refl _ _⟩
  case round =>
    obtain ⟨k, A1, n1, c1, hk, rfl, rfl, hnk, ho, hbel⟩ := hrel
    have HO := Lib.hid ho
    clear ho
    by_cases hlt : k < nodes.length
    · obtain ⟨b, off, x, rfl, hb, hx, d0⟩ := Lst.int (HG.out.below hbel) hlt
      have HSn := Lib.hid (notesT_snoc (l := l) hx)
      have HNt := Lib.hid (note_any A l.length c l x wr (HH.out.below hbel) hn)
      unfold noteO at HSn
      obtain ⟨t, ht⟩ : ∃ t, t = noteT l x := ⟨_, rfl⟩
      rw [← ht] at HSn HNt
      clear hx ht
      obtain ⟨⟨tk, tn, tj, te⟩, tb⟩ := t
      simp only [NoteV] at HNt
      simp only at HSn
      go_wp2_with fail
      refine HNt.out.mono ?_
      rintro e w2 ⟨rfl, b2⟩
      have b02 := below_step hbel b2
      obtain ⟨V, hV⟩ : ∃ V, V = w2.alloc (.cells #[.int .i64 tk, .int .i64 tn, .int .i64 tj, .int .i64 te] 31) := ⟨_, rfl⟩
      have bV : Below w2.heap.size w2 V := by rw [hV]; exact (Below.refl _ _).alloc (Nat.le_refl _) _
      have b0V := below_step b02 bV
      cases tb
      · rw [if_neg (by simp), List.append_nil] at HSn
        have HVV := Lib.hid hV
        clear d0 hV
        go_wp2_with fail
        rw [← HVV.out]
        exact ⟨⟨k + 1, A1, n1, c1, by omega, rfl, by go_num, by omega, by rw [HSn.out]; exact (HO.out.below b2).below bV, b0V⟩, by simp [intOf]; omega⟩
      · rw [if_pos rfl] at HSn
        obtain ⟨U, hU⟩ : ∃ U, U = V.alloc (.cells #[.int .i64 tk, .int .i64 tn, .int .i64 tj, .int .i64 te] 31) := ⟨_, rfl⟩
        have bU : Below V.heap.size V U := by rw [hU]; exact (Below.refl _ _).alloc (Nat.le_refl _) _
        have hVs : V.heap.size = w2.heap.size + 1 := by rw [hV]; simp
        have sU : Nts U (some ⟨V.heap.size, 0, none⟩) 1 [⟨tk, tn, tj, te⟩] := by rw [hU]; exact Lst.new layT V ⟨tk, tn, tj, te⟩ #[.int .i64 tk, .int .i64 tn, .int .i64 tj, .int .i64 te] 31 rfl
        obtain ⟨A2, c2, w3, hrun, o3, b3, _, _⟩ := app_s layT (P := Try.prog) U w.heap.size 54 54 31 _ 32 Try.underlying54 noteInfo rfl A1 n1 c1 _ (((HO.out.below b2).below bV).below bU) (some ⟨V.heap.size, 0, none⟩) 1 1 [⟨tk, tn, tj, te⟩] sU (by simp only [maxLen]; omega) (by omega) (Nat.le_trans b0V.size bU.size)
        rw [← HSn.out] at o3
        rw [hU, hVs, hV] at hrun
        have HR := Lib.hid hrun
        have HO2 := Lib.hid o3
        have b03 := (below_step b0V bU).trans b3
        clear hrun o3 sU hU hVs hV d0
        go_wp2_with (at_builtin; refine wpList_app2 rfl _ _ rfl rfl rfl HR.out ?_)
        exact ⟨⟨k + 1, A2, n1 + 1, c2, by omega, rfl, by go_num, by omega, HO2.out, b03⟩, by simp [intOf]; omega⟩
    · obtain rfl : k = nodes.length := by omega
      have ho := HO.out
      rw [List.take_length] at ho
      have hl := ho.1
      have HF := Lib.hid ho
      have HL := Lib.hid hl
      clear ho hl
      go_wp2_with fail
      go_ret
      unfold NewT
      rw [HL.out]
      exact ⟨A1, c1, rfl, HF.out, hbel⟩
set_option maxHeartbeats 2000000 in
set_option maxRecDepth 100000 in
theorem rnotes_any (A : Option Addr) (n c : Nat) (l : List Nd) (I : Option Addr) (m d : Nat) (nodes : List Int) (w : World) (h : Nds w A n l) (hn : n ≤ maxLen) (g : Ints w I m nodes) (hm : m ≤ 1000) :
    Calls Try.prog 42 #[.slice A n c, .slice I m d] w (NewT (notesT l nodes) w) := by
  have hlen := h.len
  subst hlen
  have hil := g.len
  subst hil
  have HH := Lib.hid h
  have HG := Lib.hid g
  clear h g
  go_enter Try.func42, Try.ntmps42
  go_wp2_with fail
  go_loopw [5, 6] (fun X Y wr => NtRel w l nodes X Y wr) (fun _ Y _ => nodes.length - (intOf Y).toNat)
  case atStart => exact ⟨0, none, 0, 0, by omega, rfl, rfl, by omega, SOwn.nil _ _ _ _, Below.refl _ _⟩
  case round =>
    obtain ⟨k, A1, n1, c1, hk, rfl, rfl, hnk, ho, hbel⟩ := hrel
    have HO := Lib.hid ho
    clear ho
    by_cases hlt : k < nodes.length
    · obtain ⟨b, off, x, rfl, hb, hx, d0⟩ := Lst.int (HG.out.below hbel) hlt
      have HSn := Lib.hid (notesT_snoc (l := l) hx)
      have HNt := Lib.hid (rnote_any A l.length c l x wr (HH.out.below hbel) hn)
      unfold noteO at HSn
      obtain ⟨t, ht⟩ : ∃ t, t = noteT l x := ⟨_, rfl⟩
      rw [← ht] at HSn HNt
      clear hx ht
      obtain ⟨⟨tk, tn, tj, te⟩, tb⟩ := t
      simp only [NoteV] at HNt
      simp only at HSn
      go_wp2_with fail
      refine HNt.out.mono ?_
      rintro e w2 ⟨rfl, b2⟩
      have b02 := below_step hbel b2
      obtain ⟨V, hV⟩ : ∃ V, V = w2.alloc (.cells #[.int .i64 tk, .int .i64 tn, .int .i64 tj, .int .i64 te] 31) := ⟨_, rfl⟩
      have bV : Below w2.heap.size w2 V := by rw [hV]; exact (Below.refl _ _).alloc (Nat.le_refl _) _
      have b0V := below_step b02 bV
      cases tb
      · rw [if_neg (by simp), List.append_nil] at HSn
        have HVV := Lib.hid hV
        clear d0 hV
        go_wp2_with fail
        rw [← HVV.out]
        exact ⟨⟨k + 1, A1, n1, c1, by omega, rfl, by go_num, by omega, by rw [HSn.out]; exact (HO.out.below b2).below bV, b0V⟩, by simp [intOf]; omega⟩
      · rw [if_pos rfl] at HSn
        obtain ⟨U, hU⟩ : ∃ U, U = V.alloc (.cells #[.int .i64 tk, .int .i64 tn, .int .i64 tj, .int .i64 te] 31) := ⟨_, rfl⟩
        have bU : Below V.heap.size V U := by rw [hU]; exact (Below.refl _ _).alloc (Nat.le_refl _) _
        have hVs : V.heap.size = w2.heap.size + 1 := by rw [hV]; simp
        have sU : Nts U (some ⟨V.heap.size, 0, none⟩) 1 [⟨tk, tn, tj, te⟩] := by rw [hU]; exact Lst.new layT V ⟨tk, tn, tj, te⟩ #[.int .i64 tk, .int .i64 tn, .int .i64 tj, .int .i64 te] 31 rfl
        obtain ⟨A2, c2, w3, hrun, o3, b3, _, _⟩ := app_s layT (P := Try.prog) U w.heap.size 54 54 31 _ 32 Try.underlying54 noteInfo rfl A1 n1 c1 _ (((HO.out.below b2).below bV).below bU) (some ⟨V.heap.size, 0, none⟩) 1 1 [⟨tk, tn, tj, te⟩] sU (by simp only [maxLen]; omega) (by omega) (Nat.le_trans b0V.size bU.size)
        rw [← HSn.out] at o3
        rw [hU, hVs, hV] at hrun
        have HR := Lib.hid hrun
        have HO2 := Lib.hid o3
        have b03 := (below_step b0V bU).trans b3
        clear hrun o3 sU hU hVs hV d0
        go_wp2_with (at_builtin; refine wpList_app2 rfl _ _ rfl rfl rfl HR.out ?_)
        exact ⟨⟨k + 1, A2, n1 + 1, c2, by omega, rfl, by go_num, by omega, HO2.out, b03⟩, by simp [intOf]; omega⟩
    · obtain rfl : k = nodes.length := by omega
      have ho := HO.out
      rw [List.take_length] at ho
      have hl := ho.1
      have HF := Lib.hid ho
      have HL := Lib.hid hl
      clear ho hl
      go_wp2_with fail
      go_ret
      unfold NewT
      rw [HL.out]
      exact ⟨A1, c1, rfl, HF.out, hbel⟩
def sendsB (act : Int) : Bool := act == 1 || act == 2 || act == 3 || act == 5 || act == 7 || act == 10
theorem sends_any (act : Int) (w : World) : Calls Try.prog 62 #[.int .i64 act] w fun e w' => e = .returned (.bool (sendsB act)) ∧ w = w' := by
  by_cases a1 : act = 1
  · subst a1
    go_enter Try.func62, Try.ntmps62
    go_wp2_with fail
    go_ret
    exact ⟨rfl, rfl⟩
  have b1 : (act == 1) = false := by simpa using a1
  by_cases a2 : act = 2
  · subst a2
    go_enter Try.func62, Try.ntmps62
    go_wp2_with fail
    go_ret
    exact ⟨rfl, rfl⟩
  have b2 : (act == 2) = false := by simpa using a2
  by_cases a3 : act = 3
  · subst a3
    go_enter Try.func62, Try.ntmps62
    go_wp2_with fail
    go_ret
    exact ⟨rfl, rfl⟩
  have b3 : (act == 3) = false := by simpa using a3
  by_cases a5 : act = 5
  · subst a5
    go_enter Try.func62, Try.ntmps62
    go_wp2_with fail
    go_ret
    exact ⟨rfl, rfl⟩
  have b5 : (act == 5) = false := by simpa using a5
  by_cases a7 : act = 7
  · subst a7
    go_enter Try.func62, Try.ntmps62
    go_wp2_with fail
    go_ret
    exact ⟨rfl, rfl⟩
  have b7 : (act == 7) = false := by simpa using a7
  by_cases a10 : act = 10
  · subst a10
    go_enter Try.func62, Try.ntmps62
    go_wp2_with fail
    go_ret
    exact ⟨rfl, rfl⟩
  have b10 : (act == 10) = false := by simpa using a10
  have HV : Hid (sendsB act = false) := by show _ = _; simp [sendsB, b1, b2, b3, b5, b7, b10]
  clear a1 a2 a3 a5 a7 a10
  go_enter Try.func62, Try.ntmps62
  go_wp2_with fail
  go_ret
  exact ⟨ret_bool HV.out.symm, rfl⟩
end Go.Proofs.Ytdamocjbkdknaaa.FleetW
