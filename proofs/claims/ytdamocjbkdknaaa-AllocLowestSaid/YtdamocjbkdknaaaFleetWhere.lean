/-
  Contracts of muster/fleet: where, Free, Up, Of.
-/
import Derived.Test.YtdamocjbkdknaaaFleetSets
namespace Go.Proofs.Ytdamocjbkdknaaa.FleetW
open Go.RowKit Mem Fleet
set_option linter.unusedVariables false
set_option linter.unusedSimpArgs false
set_option linter.unnecessarySimpa false

theorem intInfo : (Try.prog.info? 3).map (fun i => (i.zero, i.size, i.bytes)) = some (some (.int .i64 0), 1, 8) := by kernel_rfl
def sel (q : Nd → Bool) (l : List Nd) (k : Nat) : List Nat := (List.range k).filter (fun i => (l[i]?.map q).getD false)
theorem sel_snoc {q : Nd → Bool} {l : List Nd} {k : Nat} {x : Nd} (h : l[k]? = some x) : sel q l (k + 1) = sel q l k ++ if q x then [k] else [] := by
  unfold sel
  rw [List.range_succ, List.filter_append]
  congr 1
  cases hq : q x <;> simp [h, hq]
theorem sel_lt {q : Nd → Bool} {l : List Nd} {k : Nat} : ∀ i ∈ sel q l k, i < k := by
  intro i hi
  exact List.mem_range.1 (List.mem_filter.1 hi).1
theorem sel_up (q : Nd → Bool) (l : List Nd) (k : Nat) : (sel q l k).Pairwise (· < ·) := List.pairwise_lt_range.sublist List.filter_sublist
theorem sel_len (q : Nd → Bool) (l : List Nd) (k : Nat) : (sel q l k).length ≤ k := by
  have := List.length_filter_le (fun i => (l[i]?.map q).getD false) (List.range k)
  rw [List.length_range] at this
  exact this
theorem setM_sel (q : Nd → Bool) (l : List Nd) : ∀ k, k ≤ l.length → setM (sel q l k) = setB q (l.take k)
  | 0, _ => rfl
  | k + 1, hk => by
    have hx := List.getElem?_eq_getElem (show k < l.length by omega)
    rw [sel_snoc hx, setB_take hx, ← setM_sel q l k (by omega)]
    cases hq : q l[k]
    · simp
    · simp [setM_snoc]
theorem nats_append (a b : List Nat) : nats (a ++ b) = nats a ++ nats b := by simp [nats]
/-- the set of the nodes of which q is so -/
def whereN (q : Nd → Bool) (l : List Nd) : Nat := if chk l then setB q l else 0
def WhRel (w : World) (q : Nd → Bool) (l : List Nd) (X Y : Value) (wr : World) : Prop := ∃ (k : Nat) (A : Option Addr) (n c : Nat), k ≤ l.length ∧ X = .slice A n c ∧ Y = .int .i64 k ∧ n ≤ k ∧ IntsO wr w.heap.size A n c (nats (sel q l k)) ∧ Below w.heap.size w wr
set_option maxHeartbeats 1000000 in
set_option maxRecDepth 100000 in
theorem where0_any (g : FuncId) (q : Nd → Bool) (eg : ∀ args w, (callFunc g args).run Try.prog w = .ok (.enter g args) w) (A : Option Addr) (n c : Nat) (l : List Nd) (w : World)
    (hc : ∀ (x : Nd) (W : World), Below w.heap.size w W → Calls Try.prog g #[.agg #[.int .i64 x.st, .int .i64 x.jb, .int .i64 x.ep, .bool x.dr, .int .i64 x.wt, .int .i64 x.si, .int .i64 x.ak]] W (Ret (.bool (q x)) W)) (h : Nds w A n l) (hn : n ≤ maxLen) :
    Calls Try.prog 49 #[.slice A n c, .func (.func g) #[] #[]] w (Ret (.int .u64 (whereN q l : Int)) w) := by
  have hlen := h.len
  subst hlen
  have HCk := Lib.hid (check_any A l.length c l w h hn)
  cases hck : chk l
  · rw [chkE_no hck] at HCk
    have HP : Hid (whereN q l = 0) := by show _ = _; simp [whereN, hck]
    clear hck h hc
    go_enter Try.func49, Try.ntmps49
    go_wp2_with fail
    refine HCk.out.mono ?_
    rintro e w1 ⟨rfl, b1⟩
    go_wp2_with fail
    go_ret
    rw [HP.out]
    exact ⟨rfl, b1⟩
  · rw [chkE_yes hck] at HCk
    have hfew := (chk_iff.1 hck).few
    have HP : Hid (whereN q l = setB q l) := by show _ = _; simp [whereN, hck]
    have HH := Lib.hid h
    have HC := Lib.hid hc
    clear hck h hc
    go_enter Try.func49, Try.ntmps49
    go_wp2_with fail
    refine HCk.out.mono ?_
    rintro e w1 ⟨rfl, b1⟩
    go_wp2_with fail
    go_loopw [5, 15] (fun X Y wr => WhRel w q l X Y wr) (fun _ Y _ => l.length - (intOf Y).toNat)
    case atStart => exact ⟨0, none, 0, 0, by omega, rfl, rfl, by omega, SOwn.nil _ _ _ _, b1⟩
    case round =>
      obtain ⟨k, A1, n1, c1, hk, rfl, rfl, hnk, ho, hbel⟩ := hrel
      have HO := Lib.hid ho
      clear ho
      by_cases hlt : k < l.length
      · obtain ⟨b, off, s, rfl, hb, hs, d0, d1, d2, d3, d4, d5, d6⟩ := Lst.seven (HH.out.below hbel) hlt
        have HSn := Lib.hid (sel_snoc (q := q) hs)
        clear hs
        go_wp2_with fail
        obtain ⟨V, hV⟩ : ∃ V, V = wr.alloc (.cells #[.int .i64 s.st, .int .i64 s.jb, .int .i64 s.ep, .bool s.dr, .int .i64 s.wt, .int .i64 s.si, .int .i64 s.ak] 48) := ⟨_, rfl⟩
        rw [← hV]
        have bV : Below wr.heap.size wr V := by rw [hV]; exact (Below.refl _ _).alloc (Nat.le_refl _) _
        have b0V := below_step hbel bV
        have HCall := Lib.hid (HC.out s V b0V)
        clear hV d0 d1 d2 d3 d4 d5 d6
        cases hq : q s
        · rw [hq] at HCall HSn
          rw [if_neg (by simp), List.append_nil] at HSn
          clear hq
          refine HCall.out.mono ?_
          rintro e w2 ⟨rfl, b2⟩
          go_wp2_with fail
          exact ⟨⟨k + 1, A1, n1, c1, by omega, rfl, by go_num, by omega, by rw [HSn.out]; exact (HO.out.below bV).below b2, below_step b0V b2⟩, by simp [intOf]; omega⟩
        · rw [hq] at HCall HSn
          rw [if_pos rfl] at HSn
          clear hq
          refine HCall.out.mono ?_
          rintro e w2 ⟨rfl, b2⟩
          have b02 := below_step b0V b2
          obtain ⟨U, hU⟩ : ∃ U, U = w2.alloc (.cells #[.int .i64 (k : Int)] 3) := ⟨_, rfl⟩
          have bU : Below w2.heap.size w2 U := by rw [hU]; exact (Below.refl _ _).alloc (Nat.le_refl _) _
          have sU : Ints U (some ⟨w2.heap.size, 0, none⟩) 1 [(k : Int)] := by rw [hU]; exact Lst.new layI w2 (k : Int) #[.int .i64 (k : Int)] 3 rfl
          obtain ⟨A2, c2, w3, hrun, o3, b3, _, _⟩ := app_s layI (P := Try.prog) U w.heap.size 51 51 3 _ 8 Try.underlying51 intInfo rfl A1 n1 c1 _ (((HO.out.below bV).below b2).below bU) (some ⟨w2.heap.size, 0, none⟩) 1 1 [(k : Int)] sU (by simp only [maxLen]; omega) (by omega) (Nat.le_trans b02.size bU.size)
          have hnn : nats (sel q l k) ++ [(k : Int)] = nats (sel q l (k + 1)) := by rw [HSn.out, nats_append]; rfl
          rw [hnn] at o3
          have HR := Lib.hid hrun
          have HO2 := Lib.hid o3
          rw [hU] at HR
          have b03 := (below_step b02 bU).trans b3
          clear hrun o3 sU hU hnn
          go_wp2_with (at_builtin; refine wpList_app2 rfl _ _ rfl rfl rfl HR.out ?_)
          exact ⟨⟨k + 1, A2, n1 + 1, c2, by omega, rfl, by go_num, by omega, HO2.out, b03⟩, by simp [intOf]; omega⟩
      · obtain rfl : k = l.length := by omega
        have hms := setM_sel q l l.length (Nat.le_refl _)
        rw [List.take_length, ← HP.out] at hms
        have HOf := Lib.hid (nof_any A1 n1 c1 (sel q l l.length) wr (HO.out.lst layI) (SOwn.max HO.out) (sel_up q l _) (fun i hi => by have := sel_lt i hi; omega))
        rw [hms] at HOf
        clear hms
        go_wp2_with fail
        refine HOf.out.mono ?_
        rintro e w2 ⟨rfl, rfl⟩
        go_wp2_with fail
        go_ret
        exact ⟨rfl, hbel⟩
set_option maxHeartbeats 1000000 in
set_option maxRecDepth 100000 in
theorem where2_any (g : FuncId) (P Q : Addr) (q : Nd → Bool) (eg : ∀ args w, (callFunc g args).run Try.prog w = .ok (.enter g args) w) (A : Option Addr) (n c : Nat) (l : List Nd) (w : World)
    (hc : ∀ (x : Nd) (W : World), Below w.heap.size w W → Calls Try.prog g #[.agg #[.int .i64 x.st, .int .i64 x.jb, .int .i64 x.ep, .bool x.dr, .int .i64 x.wt, .int .i64 x.si, .int .i64 x.ak], .pointer (some P), .pointer (some Q)] W (Ret (.bool (q x)) W)) (h : Nds w A n l) (hn : n ≤ maxLen) :
    Calls Try.prog 49 #[.slice A n c, .func (.func g) #[] #[.pointer (some P), .pointer (some Q)]] w (Ret (.int .u64 (whereN q l : Int)) w) := by
  have hlen := h.len
  subst hlen
  have HCk := Lib.hid (check_any A l.length c l w h hn)
  cases hck : chk l
  · rw [chkE_no hck] at HCk
    have HP : Hid (whereN q l = 0) := by show _ = _; simp [whereN, hck]
    clear hck h hc
    go_enter Try.func49, Try.ntmps49
    go_wp2_with fail
    refine HCk.out.mono ?_
    rintro e w1 ⟨rfl, b1⟩
    go_wp2_with fail
    go_ret
    rw [HP.out]
    exact ⟨rfl, b1⟩
  · rw [chkE_yes hck] at HCk
    have hfew := (chk_iff.1 hck).few
    have HP : Hid (whereN q l = setB q l) := by show _ = _; simp [whereN, hck]
    have HH := Lib.hid h
    have HC := Lib.hid hc
    clear hck h hc
    go_enter Try.func49, Try.ntmps49
    go_wp2_with fail
    refine HCk.out.mono ?_
    rintro e w1 ⟨rfl, b1⟩
    go_wp2_with fail
    go_loopw [5, 15] (fun X Y wr => WhRel w q l X Y wr) (fun _ Y _ => l.length - (intOf Y).toNat)
    case atStart => exact ⟨0, none, 0, 0, by omega, rfl, rfl, by omega, SOwn.nil _ _ _ _, b1⟩
    case round =>
      obtain ⟨k, A1, n1, c1, hk, rfl, rfl, hnk, ho, hbel⟩ := hrel
      have HO := Lib.hid ho
      clear ho
      by_cases hlt : k < l.length
      · obtain ⟨b, off, s, rfl, hb, hs, d0, d1, d2, d3, d4, d5, d6⟩ := Lst.seven (HH.out.below hbel) hlt
        have HSn := Lib.hid (sel_snoc (q := q) hs)
        clear hs
        go_wp2_with fail
        obtain ⟨V, hV⟩ : ∃ V, V = wr.alloc (.cells #[.int .i64 s.st, .int .i64 s.jb, .int .i64 s.ep, .bool s.dr, .int .i64 s.wt, .int .i64 s.si, .int .i64 s.ak] 48) := ⟨_, rfl⟩
        rw [← hV]
        have bV : Below wr.heap.size wr V := by rw [hV]; exact (Below.refl _ _).alloc (Nat.le_refl _) _
        have b0V := below_step hbel bV
        have HCall := Lib.hid (HC.out s V b0V)
        clear hV d0 d1 d2 d3 d4 d5 d6
        cases hq : q s
        · rw [hq] at HCall HSn
          rw [if_neg (by simp), List.append_nil] at HSn
          clear hq
          refine HCall.out.mono ?_
          rintro e w2 ⟨rfl, b2⟩
          go_wp2_with fail
          exact ⟨⟨k + 1, A1, n1, c1, by omega, rfl, by go_num, by omega, by rw [HSn.out]; exact (HO.out.below bV).below b2, below_step b0V b2⟩, by simp [intOf]; omega⟩
        · rw [hq] at HCall HSn
          rw [if_pos rfl] at HSn
          clear hq
          refine HCall.out.mono ?_
          rintro e w2 ⟨rfl, b2⟩
          have b02 := below_step b0V b2
          obtain ⟨U, hU⟩ : ∃ U, U = w2.alloc (.cells #[.int .i64 (k : Int)] 3) := ⟨_, rfl⟩
          have bU : Below w2.heap.size w2 U := by rw [hU]; exact (Below.refl _ _).alloc (Nat.le_refl _) _
          have sU : Ints U (some ⟨w2.heap.size, 0, none⟩) 1 [(k : Int)] := by rw [hU]; exact Lst.new layI w2 (k : Int) #[.int .i64 (k : Int)] 3 rfl
          obtain ⟨A2, c2, w3, hrun, o3, b3, _, _⟩ := app_s layI (P := Try.prog) U w.heap.size 51 51 3 _ 8 Try.underlying51 intInfo rfl A1 n1 c1 _ (((HO.out.below bV).below b2).below bU) (some ⟨w2.heap.size, 0, none⟩) 1 1 [(k : Int)] sU (by simp only [maxLen]; omega) (by omega) (Nat.le_trans b02.size bU.size)
          have hnn : nats (sel q l k) ++ [(k : Int)] = nats (sel q l (k + 1)) := by rw [HSn.out, nats_append]; rfl
          rw [hnn] at o3
          have HR := Lib.hid hrun
          have HO2 := Lib.hid o3
          rw [hU] at HR
          have b03 := (below_step b02 bU).trans b3
          clear hrun o3 sU hU hnn
          go_wp2_with (at_builtin; refine wpList_app2 rfl _ _ rfl rfl rfl HR.out ?_)
          exact ⟨⟨k + 1, A2, n1 + 1, c2, by omega, rfl, by go_num, by omega, HO2.out, b03⟩, by simp [intOf]; omega⟩
      · obtain rfl : k = l.length := by omega
        have hms := setM_sel q l l.length (Nat.le_refl _)
        rw [List.take_length, ← HP.out] at hms
        have HOf := Lib.hid (nof_any A1 n1 c1 (sel q l l.length) wr (HO.out.lst layI) (SOwn.max HO.out) (sel_up q l _) (fun i hi => by have := sel_lt i hi; omega))
        rw [hms] at HOf
        clear hms
        go_wp2_with fail
        refine HOf.out.mono ?_
        rintro e w2 ⟨rfl, rfl⟩
        go_wp2_with fail
        go_ret
        exact ⟨rfl, hbel⟩
def freeQ (x : Nd) : Bool := x.st == 0 && !x.dr
def upQ (x : Nd) : Bool := x.st != 4 && !x.dr
def ofQ (job state : Int) (x : Nd) : Bool := x.jb == job && x.st == state
theorem free1_any (x : Nd) (W : World) : Calls Try.prog 50 #[.agg #[.int .i64 x.st, .int .i64 x.jb, .int .i64 x.ep, .bool x.dr, .int .i64 x.wt, .int .i64 x.si, .int .i64 x.ak]] W (Ret (.bool (freeQ x)) W) := by
  cases h : (x.st == 0)
  · have HV : Hid (freeQ x = false) := by show _ = _; simp [freeQ, h]
    go_enter Try.func50, Try.ntmps50
    go_wp2_with fail
    go_ret
    exact ⟨ret_bool HV.out.symm, (Below.refl _ _).alloc (Nat.le_refl _) _⟩
  · have HV : Hid (freeQ x = !x.dr) := by show _ = _; simp [freeQ, h]
    go_enter Try.func50, Try.ntmps50
    go_wp2_with fail
    go_ret
    exact ⟨ret_bool HV.out.symm, (Below.refl _ _).alloc (Nat.le_refl _) _⟩
theorem up1_any (x : Nd) (W : World) : Calls Try.prog 52 #[.agg #[.int .i64 x.st, .int .i64 x.jb, .int .i64 x.ep, .bool x.dr, .int .i64 x.wt, .int .i64 x.si, .int .i64 x.ak]] W (Ret (.bool (upQ x)) W) := by
  cases h : (x.st != 4)
  · have HV : Hid (upQ x = false) := by show _ = _; simp [upQ, h]
    go_enter Try.func52, Try.ntmps52
    go_wp2_with fail
    go_ret
    exact ⟨ret_bool HV.out.symm, (Below.refl _ _).alloc (Nat.le_refl _) _⟩
  · have HV : Hid (upQ x = !x.dr) := by show _ = _; simp [upQ, h]
    go_enter Try.func52, Try.ntmps52
    go_wp2_with fail
    go_ret
    exact ⟨ret_bool HV.out.symm, (Below.refl _ _).alloc (Nat.le_refl _) _⟩
theorem of1_any (x : Nd) (job state : Int) (P Q : Nat) (W : World) (hP : P < W.heap.size) (hQ : Q < W.heap.size) (cP : W.cell? ⟨P, 0, none⟩ = some (.int .i64 job)) (cQ : W.cell? ⟨Q, 0, none⟩ = some (.int .i64 state)) :
    Calls Try.prog 53 #[.agg #[.int .i64 x.st, .int .i64 x.jb, .int .i64 x.ep, .bool x.dr, .int .i64 x.wt, .int .i64 x.si, .int .i64 x.ak], .pointer (some ⟨P, 0, none⟩), .pointer (some ⟨Q, 0, none⟩)] W (Ret (.bool (ofQ job state x)) W) := by
  have hneP : P ≠ W.heap.size := by omega
  have hneQ : Q ≠ W.heap.size := by omega
  cases h : (x.jb == job)
  · have HV : Hid (ofQ job state x = false) := by show _ = _; simp [ofQ, h]
    go_enter Try.func53, Try.ntmps53
    go_wp2_with fail
    go_ret
    exact ⟨ret_bool HV.out.symm, (Below.refl _ _).alloc (Nat.le_refl _) _⟩
  · have HV : Hid (ofQ job state x = (x.st == state)) := by show _ = _; simp [ofQ, h]
    go_enter Try.func53, Try.ntmps53
    go_wp2_with fail
    go_ret
    exact ⟨ret_bool HV.out.symm, (Below.refl _ _).alloc (Nat.le_refl _) _⟩
theorem free_any (A : Option Addr) (n c : Nat) (l : List Nd) (w : World) (h : Nds w A n l) (hn : n ≤ maxLen) : Calls Try.prog 21 #[.slice A n c] w (Ret (.int .u64 (whereN freeQ l : Int)) w) := by
  have HW := Lib.hid (where0_any 50 freeQ (enters_of Try.func50 (by kernel_rfl) rfl) A n c l w (fun x W _ => free1_any x W) h hn)
  clear h
  go_enter Try.func21, Try.ntmps21
  go_wp2_with fail
  refine HW.out.mono ?_
  rintro e w1 ⟨rfl, b1⟩
  go_wp2_with fail
  go_ret
  exact ⟨rfl, b1⟩
theorem up_any (A : Option Addr) (n c : Nat) (l : List Nd) (w : World) (h : Nds w A n l) (hn : n ≤ maxLen) : Calls Try.prog 23 #[.slice A n c] w (Ret (.int .u64 (whereN upQ l : Int)) w) := by
  have HW := Lib.hid (where0_any 52 upQ (enters_of Try.func52 (by kernel_rfl) rfl) A n c l w (fun x W _ => up1_any x W) h hn)
  clear h
  go_enter Try.func23, Try.ntmps23
  go_wp2_with fail
  refine HW.out.mono ?_
  rintro e w1 ⟨rfl, b1⟩
  go_wp2_with fail
  go_ret
  exact ⟨rfl, b1⟩
theorem fof_any (A : Option Addr) (n c : Nat) (l : List Nd) (job state : Int) (w : World) (h : Nds w A n l) (hn : n ≤ maxLen) : Calls Try.prog 25 #[.slice A n c, .int .i64 job, .int .i64 state] w (Ret (.int .u64 (whereN (ofQ job state) l : Int)) w) := by
  obtain ⟨V, hV⟩ : ∃ V, V = (w.alloc (.cells #[.int .i64 job] 3)).alloc (.cells #[.int .i64 state] 3) := ⟨_, rfl⟩
  have bV : Below w.heap.size w V := by rw [hV]; exact ((Below.refl _ _).alloc (Nat.le_refl _) _).alloc (by simp) _
  have kP : Blk V w.heap.size 3 #[.int .i64 job] := by rw [hV]; exact (Blk.new _ _ _).alloc _
  have kQ : Blk V (w.heap.size + 1) 3 #[.int .i64 state] := by
    rw [hV]
    have := Blk.new (w.alloc (.cells #[.int .i64 job] 3)) 3 #[.int .i64 state]
    simpa using this
  have HW := Lib.hid (where2_any 53 ⟨w.heap.size, 0, none⟩ ⟨w.heap.size + 1, 0, none⟩ (ofQ job state) (enters_of Try.func53 (by kernel_rfl) rfl) A n c l V (fun x W hb => of1_any x job state _ _ W (Nat.lt_of_lt_of_le kP.lt hb.size) (Nat.lt_of_lt_of_le kQ.lt hb.size) ((hb.cell (p := ⟨w.heap.size, 0, none⟩) kP.lt).trans (kP.cell 0)) ((hb.cell (p := ⟨w.heap.size + 1, 0, none⟩) kQ.lt).trans (kQ.cell 0))) (h.below bV) hn)
  clear h kP kQ
  go_enter Try.func25, Try.ntmps25
  go_wp2_with fail
  rw [← hV]
  clear hV
  refine HW.out.mono ?_
  rintro e w1 ⟨rfl, b1⟩
  go_wp2_with fail
  go_ret
  exact ⟨rfl, below_step bV b1⟩
end Go.Proofs.Ytdamocjbkdknaaa.FleetW
