/-
  Contract of muster/alloc: Each.
-/
import Derived.Test.YtdamocjbkdknaaaAllocEach
import Derived.Test.YtdamocjbkdknaaaFleetLaw
namespace Go.Proofs.Ytdamocjbkdknaaa.FleetW
open Go.RowKit Mem Fleet
set_option linter.unusedVariables false
set_option linter.unusedSimpArgs false
set_option linter.unnecessarySimpa false

def EachPost (r : List Nd × List Nt × Int) (w : World) (e : Ending) (w' : World) : Prop := ∃ A c B d, e = .returned (.tuple #[.slice A r.1.length c, .slice B r.2.1.length d, .int .i64 r.2.2]) ∧ NdsO w' w.heap.size A r.1.length c r.1 ∧ NtsO w' w.heap.size B r.2.1.length d r.2.1 ∧ Below w.heap.size w w'
theorem eachL_step {act job now : Int} {cur : List Nd} {ns : List Int} {k : Nat} {n : Int} (h : ns[k]? = some n) : eachL act job now cur (ns.drop k) = if (doT cur n act job now).2 = 0 then eachL act job now (doT cur n act job now).1 (ns.drop (k + 1)) else ([], (doT cur n act job now).2) := by
  obtain ⟨hk, rfl⟩ := List.getElem?_eq_some_iff.1 h
  rw [List.drop_eq_getElem_cons hk]
  rfl
theorem eachT_chk {l : List Nd} {s : Nat} {act job now : Int} (h : chk l = false) : eachT l s act job now = ([], [], 120) := by rw [eachT, if_pos h]
theorem eachT_err {l : List Nd} {s : Nat} {act job now : Int} {r : Int} (h : chk l = true) (g : eachL act job now l (nats (memL s)) = ([], r)) (hr : r ≠ 0) : eachT l s act job now = ([], [], r) := by
  rw [eachT, if_neg (by simp [h]), g, if_neg hr]
theorem eachT_ok {l m : List Nd} {s : Nat} {act job now : Int} (h : chk l = true) (g : eachL act job now l (nats (memL s)) = (m, 0)) : eachT l s act job now = (m, if sendsB act then notesT m (nats (memL s)) else [], 0) := by
  rw [eachT, if_neg (by simp [h]), g, if_pos rfl]
theorem doT_len {l : List Nd} {n act job now : Int} (h : (doT l n act job now).2 = 0) : (doT l n act job now).1.length = l.length := by
  obtain ⟨k, x, _, _, _, _, _, e⟩ := doT_ok h
  rw [e]; simp
def EachRel (bl : Nat) (w3 : World) (l : List Nd) (ns : List Int) (act job now : Int) (Y : Value) (wr : World) : Prop :=
  ∃ (k : Nat) (A : Option Addr) (c : Nat) (cur : List Nd), k ≤ ns.length ∧ Y = .int .i64 k ∧ Blk wr bl 22 #[.slice A cur.length c] ∧ Nds wr A cur.length cur ∧ (0 < cur.length → ∀ b off, A = some ⟨b, off, none⟩ → b ≠ bl) ∧ (A = none → c = 0) ∧ cur.length = l.length ∧ eachL act job now l ns = eachL act job now cur (ns.drop k) ∧ But bl w3 wr
theorem each_eg : ∀ args w, (callFunc 61 args).run Try.prog w = .ok (.enter 61 args) w := enters_of Try.func61 (by kernel_rfl) rfl
set_option maxHeartbeats 4000000 in
set_option maxRecDepth 100000 in
theorem each_any (A : Option Addr) (n c : Nat) (l : List Nd) (s : Nat) (act job now : Int) (w : World) (h : Nds w A n l) (hn : n ≤ maxLen) (hA : A = none → c = 0) (hs : s < 2 ^ 64) :
    Calls Try.prog 32 #[.slice A n c, .int .u64 (s : Int), .int .i64 act, .int .i64 job, .int .i64 now] w (EachPost (eachT l s act job now) w) := by
  have hlen := h.len
  subst hlen
  obtain ⟨V, hV⟩ : ∃ V, V = (((w.alloc (.cells #[.slice A l.length c] 22)).alloc (.cells #[.int .i64 act] 3)).alloc (.cells #[.int .i64 job] 3)).alloc (.cells #[.int .i64 now] 3) := ⟨_, rfl⟩
  have kl : Blk V w.heap.size 22 #[.slice A l.length c] := by rw [hV]; exact (((Blk.new _ _ _).alloc _).alloc _).alloc _
  have ka : Blk V (w.heap.size + 1) 3 #[.int .i64 act] := by
    rw [hV]
    have := ((Blk.new (w.alloc (.cells #[.slice A l.length c] 22)) 3 #[.int .i64 act]).alloc (.cells #[.int .i64 job] 3)).alloc (.cells #[.int .i64 now] 3)
    simpa using this
  have kj : Blk V (w.heap.size + 1 + 1) 3 #[.int .i64 job] := by
    rw [hV]
    have := (Blk.new ((w.alloc (.cells #[.slice A l.length c] 22)).alloc (.cells #[.int .i64 act] 3)) 3 #[.int .i64 job]).alloc (.cells #[.int .i64 now] 3)
    simpa using this
  have kn : Blk V (w.heap.size + 1 + 1 + 1) 3 #[.int .i64 now] := by
    rw [hV]
    have := Blk.new (((w.alloc (.cells #[.slice A l.length c] 22)).alloc (.cells #[.int .i64 act] 3)).alloc (.cells #[.int .i64 job] 3)) 3 #[.int .i64 now]
    simpa using this
  have bV : Below w.heap.size w V := by rw [hV]; exact ((((Below.refl _ _).alloc (Nat.le_refl _) _).alloc (by simp) _).alloc (by simp <;> omega) _).alloc (by simp <;> omega) _
  have HCk := Lib.hid (check_any A l.length c l V (h.below bV) hn)
  have hbV := kl.lt
  cases hck : chk l
  · rw [chkE_no hck] at HCk
    have HP := Lib.hid (eachT_chk (s := s) (act := act) (job := job) (now := now) hck)
    clear hck h hA kl ka kj kn
    go_enter Try.func32, Try.ntmps32
    go_wp2_with fail
    rw [← hV]
    clear hV
    refine HCk.out.mono ?_
    rintro e w1 ⟨rfl, b1⟩
    go_wp2_with fail
    go_ret3
    rw [HP.out]
    exact ⟨none, 0, none, 0, rfl, SOwn.nil _ _ _ _, SOwn.nil _ _ _ _, below_step bV b1⟩
  · rw [chkE_yes hck] at HCk
    have HChk := Lib.hid hck
    have hfew := (chk_iff.1 hck).few
    have HLs := Lib.hid (nlist_any s)
    have HH := Lib.hid h
    have HA := Lib.hid hA
    have HSd := Lib.hid (sends_any act)
    obtain ⟨ns, hns⟩ : ∃ ns, ns = memL s := ⟨_, rfl⟩
    have hnl : ns.length ≤ 64 := by rw [hns]; exact memL_len s
    have HNs := Lib.hid hns
    rw [← hns] at HLs
    have HKl := Lib.hid kl
    have HKa := Lib.hid ka
    have HKj := Lib.hid kj
    have HKn := Lib.hid kn
    clear hck h hA hns kl ka kj kn
    go_enter Try.func32, Try.ntmps32
    go_wp2_with fail
    rw [← hV]
    clear hV
    refine HCk.out.mono ?_
    rintro e w1 ⟨rfl, b1⟩
    go_wp2_with fail
    refine (HLs.out w1 hs).mono ?_
    rintro e w3 ⟨I, d, rfl, o3, b3⟩
    have bV3 := below_step b1 b3
    have b03 := below_step bV bV3
    have HI3 := Lib.hid (o3.lst layI)
    have hIne : 0 < ns.length → ∀ b off, I = some ⟨b, off, none⟩ → b ≠ w.heap.size := by
      intro hp b off e
      subst e
      obtain ⟨g, hg, hge, _⟩ := o3.2.room (by have := o3.2.le; omega)
      injection hg with hg
      injection hg with hg
      have := b1.size
      omega
    have HIne := Lib.hid hIne
    have hlen3 : (nats ns).length = ns.length := by simp [nats]
    clear o3 hIne
    go_wp2_with fail
    go_loopw [30] (fun Y wr => EachRel w.heap.size w3 l (nats ns) act job now Y wr) (fun Y _ => ns.length - (intOf Y).toNat)
    case atStart =>
      refine ⟨0, A, c, l, by omega, rfl, HKl.out.below bV3 hbV, HH.out.below b03, ?_, HA.out, rfl, by rw [List.drop_zero], But.refl _ _⟩
      intro hp b off e
      subst e
      obtain ⟨b', off', x, e', hb', _⟩ := HH.out.at_ hp
      injection e' with e'
      injection e' with e1 e2
      omega
    case round =>
      obtain ⟨k, A1, c1, cur, hk, rfl, hkl, hcur, hne, hA1, hcl, hel, hbut⟩ := hrel
      rw [hlen3] at hk
      have hsz := hbut.size
      have hsz3 := b03.size
      have hV3 := bV3.size
      have bl0 := hbut.low
      have qa := hbut.blk (HKa.out.below bV3 HKa.out.lt) (by omega)
      have qj := hbut.blk (HKj.out.below bV3 HKj.out.lt) (by omega)
      have qn := hbut.blk (HKn.out.below bV3 HKn.out.lt) (by omega)
      have HEl := Lib.hid hel
      have HBut := Lib.hid hbut
      have HLow := Lib.hid (b03.trans bl0)
      have hi := hbut.cells HI3.out HIne.out
      by_cases hlt : k < ns.length
      · obtain ⟨b, off, x, rfl, hb, hx, d0⟩ := Lst.int hi hlt
        have HSt := Lib.hid (eachL_step (act := act) (job := job) (now := now) (cur := cur) hx)
        have HE1 := Lib.hid (each1_any w.heap.size (w.heap.size + 1) (w.heap.size + 1 + 1) (w.heap.size + 1 + 1 + 1) A1 cur.length c1 cur x act job now wr hkl qa qj qn hcur (by omega) hA1)
        have HDl := Lib.hid (doT_len (l := cur) (n := x) (act := act) (job := job) (now := now))
        obtain ⟨r, hr⟩ : ∃ r, r = doT cur x act job now := ⟨_, rfl⟩
        rw [← hr] at HSt HE1 HDl
        clear hx hr hkl qa qj qn hel hbut bl0 hi hcur hne hA1
        go_wp2_with fail
        refine HE1.out.mono ?_
        rintro e w4 ⟨rfl, bt4, hg⟩
        by_cases he : r.2 = 0
        · have e1 : (r.2 == 0) = true := by simp [he]
          rw [if_pos he] at HSt
          obtain ⟨A2, c2, k2, n2, ne2, hA2⟩ := hg he
          have HK2 := Lib.hid k2
          have HN2 := Lib.hid n2
          have HNe2 := Lib.hid ne2
          have HA2 := Lib.hid hA2
          have hl2 := HDl.out he
          clear hg he k2 n2 ne2 hA2
          go_wp2_with fail
          exact ⟨⟨k + 1, A2, c2, r.1, by rw [hlen3]; omega, by go_num, HK2.out, HN2.out, HNe2.out, HA2.out, by omega, by rw [HEl.out, HSt.out], HBut.out.trans bt4⟩, by simp [intOf]; omega⟩
        · have e1 : (r.2 == 0) = false := by simpa using he
          rw [if_neg he] at HSt
          have HP := Lib.hid (eachT_err HChk.out (by rw [← HNs.out, HEl.out, HSt.out]) he)
          clear hg he
          go_wp2_with fail
          go_ret3
          rw [HP.out]
          exact ⟨none, 0, none, 0, rfl, SOwn.nil _ _ _ _, SOwn.nil _ _ _ _, HLow.out.trans bt4.low⟩
      · obtain rfl : k = ns.length := by omega
        have hz : eachL act job now l (nats (memL s)) = (cur, 0) := by
          rw [← HNs.out, hel, ← hlen3, List.drop_length]; rfl
        have HP := Lib.hid (eachT_ok HChk.out hz)
        rw [← HNs.out] at HP
        obtain ⟨A', c', W', hrun, o', hb', hfr, _⟩ := app_s layN (P := Try.prog) (wr.alloc (.cells #[] 48)) wr.heap.size 22 22 48 _ 56 Try.underlying22 nodeInfo rfl (some ⟨wr.heap.size, 0, none⟩) 0 0 [] (SOwn.none _ _ _ _ _) A1 cur.length c1 cur (hcur.below ((Below.refl _ _).alloc (Nat.le_refl _) _)) (by simp [maxLen]; omega) (by omega) (by simp)
        simp only [Nat.zero_add, List.nil_append] at hrun o'
        have bW : Below wr.heap.size wr W' := ((Below.refl _ _).alloc (Nat.le_refl _) _).trans hb'
        have y0 := blk1 (hkl.alloc (.cells #[] 48))
        have z0 := blk1 (hkl.below bW hkl.lt)
        have za := blk1 (qa.below bW qa.lt)
        have HR := Lib.hid hrun
        have HO := Lib.hid o'
        have hwr : w.heap.size ≤ wr.heap.size := by omega
        have HCur := Lib.hid (hcur.below bW)
        have HI := Lib.hid (hi.below bW)
        have hcl' : cur.length ≤ 48 := by omega
        clear hcl hfr hrun o' hb' hcur hi qj qn qa hkl hel hbut hne hA1 hz bl0
        go_wp2_with (at_builtin; refine wpList_app2 rfl _ _ rfl rfl rfl HR.out ?_)
        refine (HSd.out _).mono ?_
        rintro e w5 ⟨rfl, rfl⟩
        cases hsd : sendsB act
        · rw [hsd] at HP
          go_wp2_with fail
          go_ret3
          rw [HP.out]
          exact ⟨A', c', none, 0, rfl, HO.out.mono hwr, SOwn.nil _ _ _ _, HLow.out.trans (bW.mono hwr)⟩
        · rw [hsd] at HP
          go_wp2_with fail
          refine (notes_any A1 cur.length c1 cur I ns.length d (nats ns) _ HCur.out (Nat.le_trans hcl' (by simp [maxLen])) HI.out (by omega)).mono ?_
          rintro e w6 ⟨B, d6, rfl, o6, b6⟩
          go_wp2_with fail
          go_ret3
          rw [HP.out]
          exact ⟨A', c', B, d6, rfl, (HO.out.mono hwr).below b6, o6.mono (Nat.le_trans hwr bW.size), (HLow.out.trans (bW.mono hwr)).trans (b6.mono (Nat.le_trans hwr bW.size))⟩
end Go.Proofs.Ytdamocjbkdknaaa.FleetW
