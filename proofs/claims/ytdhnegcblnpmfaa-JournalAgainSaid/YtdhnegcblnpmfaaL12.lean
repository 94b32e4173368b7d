/-
  Merged: A journal's state: what each call leaves, and what a crash leaves (plain).; Contract: musterlaw34.awake.; Contract: musterlaw34.run.; The walk of musterlaw34.JournalKeeps.
-/
import Derived.Test.YtdhnegcblnpmfaaL10
import Derived.Test.YtdhnegcblnpmfaaL11
import Derived.Test.YtdhnegcblnpmfaaL3
namespace Go.Proofs.Ytdhnegcblnpmfaa.Jrn
open Pack Frm Stor
set_option linter.unusedVariables false
set_option linter.unusedSimpArgs false

/-- a store with a journal on it -/
structure Sound (s : Sto) (H area next : Nat) (life st : Int) (im : List UInt8) (ev : List (List UInt8)) : Prop where
  ok : s.Ok
  on : s.off = false
  inv : Inv s.bs H area life next im ev
  fresh : Fresh s.bs st
  st1 : 1 ≤ st
/-- no block was torn -/
structure Good (s : Sto) (H area next : Nat) (life st : Int) (im : List UInt8) (ev : List (List UInt8)) : Prop where
  sound : Sound s H area next life st im ev
  clean : Clean s.bs
  small : ∀ b ∈ s.bs, Small b
theorem layS_unarmed {s : Sto} {a : Nat} {st : Int} {fr : List UInt8} (hok : s.Ok) (hoff : s.off = false) (hl : s.left = 0) : ∀ i, a + i ≤ s.bs.length → (layS s a st fr i).2 = 0 ∧ (layS s a st fr i).1.left = 0 ∧ (layS s a st fr i).1.off = false := by
  intro i
  induction i with
  | zero => intro _; exact ⟨rfl, hl, hoff⟩
  | succ i ih =>
    intro hin
    obtain ⟨h1, h2, h3⟩ := ih (by omega)
    rw [layS_next h1]
    have hlen := layS_len s a st fr i
    obtain ⟨t, ht⟩ : ∃ t, t = (layS s a st fr i).1 := ⟨_, rfl⟩
    rw [← ht] at h2 h3 hlen ⊢
    have hr : reach t ((a + i : Nat) : Int) = 0 := by
      unfold reach
      rw [if_neg (by simp [h3]), if_neg (by omega)]
    have hwl : (writeB (pb st fr i)).length = 256 := writeB_len (by simp [pb]; omega)
    unfold write
    rw [if_neg (by rw [hr]; simp), if_neg (by simp [hwl]), if_neg (by omega)]
    refine ⟨rfl, ?_, h3⟩
    simp only
    omega
/-- unarmed, all parts are laid -/
theorem lay_whole {s : Sto} {a : Nat} {st : Int} {fr : List UInt8} (hok : s.Ok) (hoff : s.off = false) (hl : s.left = 0) (hin : a + parts fr ≤ s.bs.length) (hk : parts fr ≤ 255) (hf : Fresh s.bs st) (h0 : 1 ≤ st) (h1 : st + 255 < 4294967296) :
    (layS s a st fr (parts fr)).2 = 0 ∧ (layS s a st fr (parts fr)).1.off = false ∧ (layS s a st fr (parts fr)).1.left = 0 ∧ Part s.bs (layS s a st fr (parts fr)).1.bs a st fr (parts fr) ∧ Fresh (layS s a st fr (parts fr)).1.bs (st + parts fr) := by
  obtain ⟨k1, k2, k3⟩ := layS_unarmed (st := st) (fr := fr) hok hoff hl (parts fr) hin
  have hlen := layS_len s a st fr (parts fr)
  rcases layS_runs (st := st) (fr := fr) hok hoff (parts fr) hin with ⟨r1, r2, r3, r4⟩ | ⟨r1, _⟩
  · refine ⟨k1, k3, k2, ⟨Nat.le_refl _, hlen, r3, fun p hp => .inl (r4 p hp)⟩, fun p hp => ?_⟩
    by_cases c : p < a ∨ a + parts fr ≤ p
    · rw [r4 p c]
      have := hf p (by omega)
      omega
    · have h := r3 (p - a) (by omega)
      rw [show a + (p - a) = p by omega] at h
      rw [h]
      obtain ⟨e1, e2⟩ := writeB_ends (pb_fine (st := st) (fr := fr) (i := p - a) (by omega) h1 (by omega))
      rw [e1, e2]
      have : (pb st fr (p - a)).stamp = st + ((p - a : Nat) : Int) := rfl
      omega
  · omega
theorem fits_of {body : List UInt8} {b : Int} (h1 : need body ≤ 255) (h2 : need body ≤ b) {life seq : Int} (l0 : 0 ≤ life) (l1 : life < 4294967296) (s0 : 0 ≤ seq) (s1 : seq < 4294967296) :
    Framed (put life seq body).1 life seq body ∧ ((parts (put life seq body).1 : Nat) : Int) ≤ b ∧ parts (put life seq body).1 ≤ 255 := by
  obtain ⟨h3, h4, _⟩ := put_framed l0 l1 s0 s1 h1
  exact ⟨h3, by omega, h3.few⟩
/-- behind the crash the power is on again -/
def again (s : Sto) : Sto := power (power s false) true
theorem again_bs (s : Sto) : (again s).bs = s.bs := rfl
theorem again_ok {s : Sto} (h : s.Ok) : (again s).Ok := power_ok (power_ok h _) _
theorem Sound.again {s : Sto} {H area next : Nat} {life st : Int} {im : List UInt8} {ev : List (List UInt8)} (h : Sound s H area next life st im ev) : Sound (again s) H area next life (stamped s.bs) im ev :=
  ⟨again_ok h.ok, rfl, h.inv, (stamped_fresh h.ok.whole).1, (stamped_fresh h.ok.whole).2⟩
/-- an event is laid on a good store: it stands, or a crash leaves it whole, or not -/
theorem Good.append {s : Sto} {H area next : Nat} {life st : Int} {im body : List UInt8} {ev : List (List UInt8)} (h : Good s H area next life st im ev) (hst : st + 255 ≤ 65536) (hl : life < 4294967296) (he : ev.length < 4294967295) (h1 : need body ≤ 255) (h2 : need body ≤ (((area + 1) * H : Nat) : Int) - next) :
    ((layS s next st (put life ((ev.length + 1 : Nat) : Int) body).1 (parts (put life ((ev.length + 1 : Nat) : Int) body).1)).2 = 0 ∧ Good (layS s next st (put life ((ev.length + 1 : Nat) : Int) body).1 (parts (put life ((ev.length + 1 : Nat) : Int) body).1)).1 H area (next + parts (put life ((ev.length + 1 : Nat) : Int) body).1) life (st + parts (put life ((ev.length + 1 : Nat) : Int) body).1) im (ev ++ [body])) ∨
    ((layS s next st (put life ((ev.length + 1 : Nat) : Int) body).1 (parts (put life ((ev.length + 1 : Nat) : Int) body).1)).2 = 330 ∧ ∃ next' ev', Sound (again (layS s next st (put life ((ev.length + 1 : Nat) : Int) body).1 (parts (put life ((ev.length + 1 : Nat) : Int) body).1)).1) H area next' life (stamped (layS s next st (put life ((ev.length + 1 : Nat) : Int) body).1 (parts (put life ((ev.length + 1 : Nat) : Int) body).1)).1.bs) im ev' ∧ (ev' = ev ∨ ev' = ev ++ [body]) ∧ stamped (layS s next st (put life ((ev.length + 1 : Nat) : Int) body).1 (parts (put life ((ev.length + 1 : Nat) : Int) body).1)).1.bs ≤ 65536) := by
  have hi := h.sound.inv
  have hlf := hi.life1
  obtain ⟨hfr, hpb, hp255⟩ := fits_of h1 h2 (life := life) (seq := ((ev.length + 1 : Nat) : Int)) (by omega) hl (by omega) (by omega)
  obtain ⟨fr, hfre⟩ : ∃ fr, fr = (put life ((ev.length + 1 : Nat) : Int) body).1 := ⟨_, rfl⟩
  rw [← hfre] at hfr hpb hp255 ⊢
  have hE := hi.even
  have har := hi.ar
  have h2H : (area + 1) * H ≤ 2 * H := Nat.mul_le_mul_right _ (by omega)
  have hin : next + parts fr ≤ (area + 1) * H := by omega
  have st1 := h.sound.st1
  obtain ⟨hsm, hcase⟩ := lay_part (a := next) (fr := fr) h.sound.ok h.sound.on (by omega) hp255 h.clean h.sound.fresh h.small st1 hst
  have hok := layS_ok next st fr h.sound.ok (parts fr)
  rcases hcase with ⟨r1, r2, r3, r4, r5⟩ | ⟨r1, m, hp⟩
  · left
    obtain ⟨ha, _⟩ := hi.append h.sound.fresh st1 (by omega) hfr hin r3
    exact ⟨r1, ⟨⟨hok, r2, ha rfl, r5, by omega⟩, r4, hsm⟩⟩
  · right
    obtain ⟨ha, hb⟩ := hi.append h.sound.fresh st1 (by omega) hfr hin hp
    refine ⟨r1, ?_⟩
    by_cases c : m = parts fr
    · exact ⟨_, _, ⟨again_ok hok, rfl, ha c, (stamped_fresh hok.whole).1, (stamped_fresh hok.whole).2⟩, .inr rfl, stamped_small hok.whole hsm⟩
    · exact ⟨_, _, ⟨again_ok hok, rfl, hb c, (stamped_fresh hok.whole).1, (stamped_fresh hok.whole).2⟩, .inl rfl, stamped_small hok.whole hsm⟩
/-- the journal is turned on a good store -/
theorem Good.turn {s : Sto} {H area next : Nat} {life st : Int} {im body : List UInt8} {ev : List (List UInt8)} (h : Good s H area next life st im ev) (hst : st + 255 ≤ 65536) (hl : life + 1 < 4294967296) (h1 : need body ≤ 255) (h2 : need body ≤ H) :
    ((layS s ((1 - area) * H) st (put (life + 1) 0 body).1 (parts (put (life + 1) 0 body).1)).2 = 0 ∧ Good (layS s ((1 - area) * H) st (put (life + 1) 0 body).1 (parts (put (life + 1) 0 body).1)).1 H (1 - area) ((1 - area) * H + parts (put (life + 1) 0 body).1) (life + 1) (st + parts (put (life + 1) 0 body).1) body []) ∨
    ((layS s ((1 - area) * H) st (put (life + 1) 0 body).1 (parts (put (life + 1) 0 body).1)).2 = 330 ∧ ∃ area' next' life' im' ev', Sound (again (layS s ((1 - area) * H) st (put (life + 1) 0 body).1 (parts (put (life + 1) 0 body).1)).1) H area' next' life' (stamped (layS s ((1 - area) * H) st (put (life + 1) 0 body).1 (parts (put (life + 1) 0 body).1)).1.bs) im' ev' ∧ life' ≤ life + 1 ∧ ((im' = im ∧ ev' = ev) ∨ (im' = body ∧ ev' = [])) ∧ stamped (layS s ((1 - area) * H) st (put (life + 1) 0 body).1 (parts (put (life + 1) 0 body).1)).1.bs ≤ 65536) := by
  have hi := h.sound.inv
  have hlf := hi.life1
  obtain ⟨hfr, hpb, hp255⟩ := fits_of h1 h2 (life := life + 1) (seq := 0) (by omega) hl (by omega) (by omega)
  obtain ⟨fr, hfre⟩ : ∃ fr, fr = (put (life + 1) 0 body).1 := ⟨_, rfl⟩
  rw [← hfre] at hfr hpb hp255 ⊢
  have hE := hi.even
  have har := hi.ar
  have h2H : (1 - area) * H ≤ 1 * H := Nat.mul_le_mul_right _ (by omega)
  have st1 := h.sound.st1
  obtain ⟨hsm, hcase⟩ := lay_part (a := (1 - area) * H) (fr := fr) h.sound.ok h.sound.on (by omega) hp255 h.clean h.sound.fresh h.small st1 hst
  have hok := layS_ok ((1 - area) * H) st fr h.sound.ok (parts fr)
  rcases hcase with ⟨r1, r2, r3, r4, r5⟩ | ⟨r1, m, hp⟩
  · left
    obtain ⟨ha, _⟩ := hi.turn h.sound.fresh st1 (by omega) hfr (by omega) r3
    exact ⟨r1, ⟨⟨hok, r2, ha rfl, r5, by omega⟩, r4, hsm⟩⟩
  · right
    obtain ⟨ha, hb⟩ := hi.turn h.sound.fresh st1 (by omega) hfr (by omega) hp
    refine ⟨r1, ?_⟩
    by_cases c : m = parts fr
    · exact ⟨_, _, _, _, _, ⟨again_ok hok, rfl, ha c, (stamped_fresh hok.whole).1, (stamped_fresh hok.whole).2⟩, by omega, .inr ⟨rfl, rfl⟩, stamped_small hok.whole hsm⟩
    · exact ⟨_, _, _, _, _, ⟨again_ok hok, rfl, hb c, (stamped_fresh hok.whole).1, (stamped_fresh hok.whole).2⟩, by omega, .inl ⟨rfl, rfl⟩, stamped_small hok.whole hsm⟩
/-- an event is laid where nothing is armed -/
theorem Sound.append {s : Sto} {H area next : Nat} {life st : Int} {im body : List UInt8} {ev : List (List UInt8)} (h : Sound s H area next life st im ev) (hleft : s.left = 0) (hst : st + 255 < 4294967296) (hl : life < 4294967296) (he : ev.length < 4294967295) (h1 : need body ≤ 255) (h2 : need body ≤ (((area + 1) * H : Nat) : Int) - next) :
    (layS s next st (put life ((ev.length + 1 : Nat) : Int) body).1 (parts (put life ((ev.length + 1 : Nat) : Int) body).1)).2 = 0 ∧ (layS s next st (put life ((ev.length + 1 : Nat) : Int) body).1 (parts (put life ((ev.length + 1 : Nat) : Int) body).1)).1.left = 0 ∧ Sound (layS s next st (put life ((ev.length + 1 : Nat) : Int) body).1 (parts (put life ((ev.length + 1 : Nat) : Int) body).1)).1 H area (next + parts (put life ((ev.length + 1 : Nat) : Int) body).1) life (st + parts (put life ((ev.length + 1 : Nat) : Int) body).1) im (ev ++ [body]) ∧ next + parts (put life ((ev.length + 1 : Nat) : Int) body).1 ≤ s.bs.length := by
  have hi := h.inv
  have hlf := hi.life1
  obtain ⟨hfr, hpb, hp255⟩ := fits_of h1 h2 (life := life) (seq := ((ev.length + 1 : Nat) : Int)) (by omega) hl (by omega) (by omega)
  obtain ⟨fr, hfre⟩ : ∃ fr, fr = (put life ((ev.length + 1 : Nat) : Int) body).1 := ⟨_, rfl⟩
  rw [← hfre] at hfr hpb hp255 ⊢
  have hE := hi.even
  have har := hi.ar
  have h2H : (area + 1) * H ≤ 2 * H := Nat.mul_le_mul_right _ (by omega)
  have hin : next + parts fr ≤ (area + 1) * H := by omega
  have st1 := h.st1
  obtain ⟨r1, r2, r3, r4, r5⟩ := lay_whole (a := next) (fr := fr) h.ok h.on hleft (by omega) hp255 h.fresh st1 (by omega)
  obtain ⟨ha, _⟩ := hi.append h.fresh st1 (by omega) hfr hin r4
  exact ⟨r1, r3, ⟨layS_ok next st fr h.ok _, r2, ha rfl, r5, by omega⟩, by omega⟩
/-- the journal is turned where nothing is armed -/
theorem Sound.turn {s : Sto} {H area next : Nat} {life st : Int} {im body : List UInt8} {ev : List (List UInt8)} (h : Sound s H area next life st im ev) (hleft : s.left = 0) (hst : st + 255 < 4294967296) (hl : life + 1 < 4294967296) (h1 : need body ≤ 255) (h2 : need body ≤ H) :
    (layS s ((1 - area) * H) st (put (life + 1) 0 body).1 (parts (put (life + 1) 0 body).1)).2 = 0 ∧ Sound (layS s ((1 - area) * H) st (put (life + 1) 0 body).1 (parts (put (life + 1) 0 body).1)).1 H (1 - area) ((1 - area) * H + parts (put (life + 1) 0 body).1) (life + 1) (st + parts (put (life + 1) 0 body).1) body [] ∧ (1 - area) * H + parts (put (life + 1) 0 body).1 ≤ s.bs.length := by
  have hi := h.inv
  have hlf := hi.life1
  obtain ⟨hfr, hpb, hp255⟩ := fits_of h1 h2 (life := life + 1) (seq := 0) (by omega) hl (by omega) (by omega)
  obtain ⟨fr, hfre⟩ : ∃ fr, fr = (put (life + 1) 0 body).1 := ⟨_, rfl⟩
  rw [← hfre] at hfr hpb hp255 ⊢
  have hE := hi.even
  have har := hi.ar
  have h2H : (1 - area) * H ≤ 1 * H := Nat.mul_le_mul_right _ (by omega)
  have st1 := h.st1
  obtain ⟨r1, r2, r3, r4, r5⟩ := lay_whole (a := (1 - area) * H) (fr := fr) h.ok h.on hleft (by omega) hp255 h.fresh st1 (by omega)
  obtain ⟨ha, _⟩ := hi.turn h.fresh st1 (by omega) hfr (by omega) r4
  exact ⟨r1, ⟨layS_ok _ st fr h.ok _, r2, ha rfl, r5, by omega⟩, by omega⟩
theorem blk_new (n p : Nat) : blk (new n).bs p = zeros ∨ blk (new n).bs p = [] := by
  unfold blk new
  rw [List.getD_eq_getElem?_getD]
  by_cases h : p < n
  · left; simp [List.getElem?_replicate, h]
  · right; simp [List.getElem?_replicate, h]
theorem zeros_num : numAt zeros 0 4 = 0 ∧ numAt zeros 252 4 = 0 := by
  refine ⟨?_, ?_⟩
  · rw [numAt_start zeros_length]
    have : num (start4 zeros) = 0 := rfl
    rw [this]
    rfl
  · rw [numAt_end zeros_length]
    have : num (end4 zeros) = 0 := rfl
    rw [this]
    rfl
theorem zeros_small : Small zeros := ⟨rfl, rfl, rfl, rfl⟩
theorem new_none (n p : Nat) : readB (blk (new n).bs p) = none := by
  rcases blk_new n p with h | h
  · rw [h]
    refine readB_no ?_
    unfold readOk
    rw [zeros_num.1]
    rfl
  · rw [h]; exact readB_len (by simp)
theorem new_mem {n : Nat} {b : List UInt8} (h : b ∈ (new n).bs) : b = zeros := by
  unfold new at h
  exact List.eq_of_mem_replicate h
theorem new_blk {n p : Nat} (h : p < (new n).bs.length) : blk (new n).bs p = zeros := new_mem (blk_mem h)
theorem new_stamped (n : Nat) : stamped (new n).bs = 1 := by
  have h1 := foldl_ge (new n).bs 0
  have h2 := foldl_le (new n).bs 0 (fun s hs => by
    rw [new_mem hs, zeros_length]
    have := zeros_num
    exact ⟨by omega, by have e : numAt zeros 252 4 = numAt zeros (((256 : Nat) : Int) - 4) 4 := rfl
                        omega⟩) 0 (by omega)
  unfold stamped
  omega
theorem look_new (n area : Nat) : look (new n).bs area = ⟨area, 0, 0, 0, 0, [], [], false⟩ := by
  have hr : recs (new n).bs area = [] := by
    unfold recs
    rw [recsF, take_none (new_none n _)]
  unfold look
  rw [hr]
theorem counts_new (n : Nat) : counts (new n).bs = ⟨1, 0, 0, 0, 1, [], [], false⟩ := by
  unfold counts
  simp only [look_new, new_stamped]
  simp
/-- a journal is begun on a new store -/
theorem good_first {n H : Nat} {body : List UInt8} (hn : n = 2 * H) (h1n : 1 ≤ n) (h4 : n ≤ 400) (h1 : need body ≤ 255) (h2 : need body ≤ H) :
    (layS (new n) 0 1 (put 1 0 body).1 (parts (put 1 0 body).1)).2 = 0 ∧ (layS (new n) 0 1 (put 1 0 body).1 (parts (put 1 0 body).1)).1.left = 0 ∧ Good (layS (new n) 0 1 (put 1 0 body).1 (parts (put 1 0 body).1)).1 H 0 (parts (put 1 0 body).1) 1 (1 + parts (put 1 0 body).1) body [] ∧ parts (put 1 0 body).1 ≤ H ∧ (layS (new n) 0 1 (put 1 0 body).1 (parts (put 1 0 body).1)).1.wr ≤ H := by
  obtain ⟨hfr, hpb, hp255⟩ := fits_of h1 h2 (life := 1) (seq := 0) (by omega) (by omega) (by omega) (by omega)
  obtain ⟨fr, hfre⟩ : ∃ fr, fr = (put 1 0 body).1 := ⟨_, rfl⟩
  rw [← hfre] at hfr hpb hp255 ⊢
  have hlen : (new n).bs.length = n := by simp [new]
  have hok := new_ok n h1n h4
  have hfresh : Fresh (new n).bs 1 := fun p hp => by rw [new_blk hp]; have := zeros_num; omega
  have hclean : Clean (new n).bs := fun p hp => by rw [new_blk hp]; have := zeros_num; omega
  obtain ⟨u1, u2, u3⟩ := layS_unarmed (a := 0) (st := 1) (fr := fr) hok rfl rfl (parts fr) (by omega)
  obtain ⟨hsm, hcase⟩ := lay_part (a := 0) (st := 1) (fr := fr) hok rfl (by omega) hp255 hclean hfresh (fun b hb => by rw [new_mem hb]; exact zeros_small) (by omega) (by omega)
  have hwr := layS_wr (new n) 0 1 fr (parts fr)
  have hw0 : (new n).wr = 0 := rfl
  rcases hcase with ⟨r1, r2, r3, r4, r5⟩ | ⟨r1, _⟩
  · refine ⟨r1, u2, ⟨⟨layS_ok 0 1 fr hok _, r2, ?_, r5, by omega⟩, r4, hsm⟩, by omega, by omega⟩
    exact Inv.first (by omega) (new_none n) hfresh (by omega) (by omega) (by omega) hfr (by omega) r3
  · omega
end Go.Proofs.Ytdhnegcblnpmfaa.Jrn

namespace Go.Proofs.Ytdhnegcblnpmfaa.JrnW
open Go.RowKit Mem Jrn PackW FrameW
set_option linter.unusedVariables false
set_option linter.unusedSimpArgs false

theorem stamped_le {bs : List (List UInt8)} {st : Int} (hw : ∀ b ∈ bs, b.length = 256) (hf : Fresh bs st) (h1 : 1 ≤ st) : Jrn.stamped bs ≤ st := by
  unfold Jrn.stamped
  have := foldl_le bs (st - 1) (fun s hs => by
    obtain ⟨p, hp, rfl⟩ := mem_blk hs
    have h := hf p hp
    rw [hw _ hs]
    refine ⟨by omega, ?_⟩
    have e : numAt (blk bs p) 252 4 = numAt (blk bs p) (((256 : Nat) : Int) - 4) 4 := rfl
    omega) 0 (by omega)
  omega
theorem TxW.keepJ {w w' : World} {base : Nat} {A : Option Addr} {n c : Nat} {l : List (List UInt8)} (h : TxW w base A n c l) (hk : KeepJ w w') : TxW w' base A n c l := h.same fun g e hb => by
  rcases h.shape with ⟨e', _⟩ | ⟨g', cur, e', _, hh, _⟩
  · rw [e] at e'; cases e'
  · rw [e] at e'
    injection e' with e'
    injection e' with e'
    subst e'
    exact (hk _ _ _ _ (by decide) (by decide) (by decide) hh).trans hh.symm
def aIm : List UInt8 := [105, 109, 97, 103, 101]
def aA : List UInt8 := [97]
def aNw : List UInt8 := [110, 101, 119]
def aF1 : List UInt8 := (Frm.put 1 0 aIm).1
def aR1 : Stor.Sto × Int := layS (Stor.new 8) 0 1 aF1 (parts aF1)
def aF2 : List UInt8 := (Frm.put 1 ((0 + 1 : Nat) : Int) aA).1
def aR2 : Stor.Sto × Int := layS aR1.1 (parts aF1) (1 + parts aF1) aF2 (parts aF2)
def aF3 : List UInt8 := (Frm.put (1 + 1) 0 aNw).1
def aR3 : Stor.Sto × Int := layS aR2.1 ((1 - 0) * (aR2.1.bs.length / 2)) (Jrn.stamped aR2.1.bs) aF3 (parts aF3)
structure AwakeF : Prop where
  n1 : parts aF1 = 1
  n2 : parts aF2 = 1
  n3 : parts aF3 = 1
  e1 : aR1.2 = 0
  e2 : aR2.2 = 0
  e3 : aR3.2 = 0
  ok1 : aR1.1.Ok
  ok2 : aR2.1.Ok
  on2 : aR2.1.off = false
  l1 : aR1.1.bs.length = 8
  l2 : aR2.1.bs.length = 8
  l3 : aR3.1.bs.length = 8
  ok3 : aR3.1.Ok
  w1 : aR1.1.wr ≤ 4
  w2 : aR2.1.wr ≤ 5
  s1 : 1 ≤ Jrn.stamped aR2.1.bs
  s2 : Jrn.stamped aR2.1.bs ≤ 3
  ct : Jrn.counts aR2.1.bs = ⟨((0 : Nat) : Int), 1, ((1 : Nat) : Int), ((2 : Nat) : Int), Jrn.stamped aR2.1.bs, aIm, [aA], true⟩
theorem awakeF : AwakeF := by
  have hn1 : need aIm = 1 := rfl
  have hn2 : need aA = 1 := rfl
  have hn3 : need aNw = 1 := rfl
  have p1 : parts aF1 = 1 := by
    have := (put_framed (life := 1) (seq := 0) (body := aIm) (by omega) (by omega) (by omega) (by omega) (by omega)).2.1
    unfold aF1
    omega
  have p2 : parts aF2 = 1 := by
    have := (put_framed (life := 1) (seq := ((0 + 1 : Nat) : Int)) (body := aA) (by omega) (by omega) (by omega) (by omega) (by omega)).2.1
    unfold aF2
    omega
  have p3 : parts aF3 = 1 := by
    have := (put_framed (life := 1 + 1) (seq := 0) (body := aNw) (by omega) (by omega) (by omega) (by omega) (by omega)).2.1
    unfold aF3
    omega
  obtain ⟨f1, f2, f3, f4, f5⟩ := good_first (n := 8) (H := 4) (body := aIm) rfl (by omega) (by omega) (by omega) (by omega)
  have f1 : aR1.2 = 0 := by unfold aR1 aF1; exact f1
  have f2 : aR1.1.left = 0 := by unfold aR1 aF1; exact f2
  have f3 : Jrn.Good aR1.1 4 0 (parts aF1) 1 (1 + parts aF1) aIm [] := by unfold aR1 aF1; exact f3
  have f5 : aR1.1.wr ≤ 4 := by unfold aR1 aF1; exact f5
  have q1 : (1 : Int) + parts aF1 + 255 < 4294967296 := by omega
  have q2 : (1 : Int) < 4294967296 := by omega
  have q3 : ([] : List (List UInt8)).length < 4294967295 := by rw [List.length_nil]; omega
  have q4 : need aA ≤ 255 := by omega
  have q5 : need aA ≤ (((0 + 1) * 4 : Nat) : Int) - (parts aF1 : Nat) := by omega
  obtain ⟨g1, g2, g3, g4⟩ := f3.sound.append (body := aA) f2 q1 q2 q3 q4 q5
  rw [List.length_nil] at g1 g2 g3
  have g1 : aR2.2 = 0 := by unfold aR2 aF2; exact g1
  have g2 : aR2.1.left = 0 := by unfold aR2 aF2; exact g2
  have g3 : Jrn.Sound aR2.1 4 0 (parts aF1 + parts aF2) 1 (1 + parts aF1 + parts aF2) aIm ([] ++ [aA]) := by unfold aR2 aF2; exact g3
  have hE := g3.inv.even
  have hst := stamped_fresh g3.ok.whole
  have hsl := stamped_le g3.ok.whole g3.fresh g3.st1
  have g3' : Jrn.Sound aR2.1 4 0 (parts aF1 + parts aF2) 1 (Jrn.stamped aR2.1.bs) aIm ([] ++ [aA]) := ⟨g3.ok, g3.on, g3.inv, hst.1, hst.2⟩
  obtain ⟨k1, k2, k3⟩ := g3'.turn (body := aNw) g2 (by omega) (by omega) (by omega) (by omega)
  have hh : aR2.1.bs.length / 2 = 4 := by omega
  have k1' : aR3.2 = 0 := by unfold aR3 aF3; rw [hh]; exact k1
  have k2' : aR3.1.Ok := by unfold aR3 aF3; rw [hh]; exact k2.ok
  have hlen1 : aR1.1.bs.length = 8 := f3.sound.inv.even
  have hw2 := layS_wr aR1.1 (parts aF1) (1 + parts aF1) aF2 (parts aF2)
  have hw2' : aR2.1.wr ≤ aR1.1.wr + parts aF2 := by unfold aR2; exact hw2.2
  have hl3 : aR3.1.bs.length = 8 := by
    have := layS_len aR2.1 ((1 - 0) * (aR2.1.bs.length / 2)) (Jrn.stamped aR2.1.bs) aF3 (parts aF3)
    have : aR3.1.bs.length = aR2.1.bs.length := by unfold aR3; exact this
    omega
  refine ⟨p1, p2, p3, f1, g1, k1', f3.sound.ok, g3.ok, g3.on, hlen1, by omega, hl3, k2', f5, by omega, hst.2, by omega, ?_⟩
  rw [g3.inv.counts, p1, p2]
  rfl
theorem str_eq_lit (l : List UInt8) (s : ByteArray) (h : s = ⟨l.toArray⟩) : str l = s := h.symm
set_option maxHeartbeats 8000000 in
set_option maxRecDepth 100000 in
theorem awake34_any (w : World) : Calls Try.prog 38 #[] w fun e w' => e = .returned (.bool true) ∧ Below w.heap.size w w' := by
  have HA := awakeF
  have HNew := Lib.hid (StorW.new_any 8 w (by omega) (by omega))
  have c1 : Jrn.need aIm = 1 := rfl
  have c2 : Jrn.need aA = 1 := rfl
  have c3 : Jrn.need aNw = 1 := rfl
  have HFm := Lib.hid fun base g wx h hb => format_new base g (Stor.new 8) 1 (str aIm) wx h hb (Stor.new_ok 8 (by omega) (by omega)) rfl (by show 4 ≤ (Stor.new 8).bs.length; simp [Stor.new]) (by rw [counts_new]) (by rw [counts_new]) (by show (0 : Int) < 900000; omega) (by rw [str_size]; show 5 ≤ 1000000; omega) (by rw [str_data, c1]; omega)
    (by rw [str_data, c1]; simp [Stor.new]; rfl) (by rw [str_data]; have := HA.n1; unfold aF1 at this; rw [this]; simp [Stor.new]) (by omega) (by omega) (by rw [str_data]; have := HA.e1; unfold aR1 aF1 at this; exact this)
  rw [str_data] at HFm
  have HFm2 : Hid (∀ base g wx, StorW.Is wx base g (Stor.new 8) → base ≤ wx.heap.size → Calls Try.prog 36 #[.pointer (some ⟨g, 0, none⟩), .string ⟨#[105, 109, 97, 103, 101]⟩] wx (FormatOut base g aR1 (jC 0 1 ((0 : Nat) : Int) ((1 : Nat) : Int) 2 g false) wx)) := fun base g wx h hb => by
    have := HFm.out base g wx h hb
    have e1 : layS (Stor.new 8) 0 1 (Frm.put 1 0 aIm).1 (parts (Frm.put 1 0 aIm).1) = aR1 := by unfold aR1 aF1; rfl
    have e2 : parts (Frm.put 1 0 aIm).1 = 1 := HA.n1
    rw [e1, e2] at this
    exact this
  have HAp : Hid (∀ jb base g wx, Blk wx jb 64 (jC 0 1 ((0 : Nat) : Int) ((1 : Nat) : Int) 2 g false) → base ≤ jb → StorW.Is wx base g aR1.1 → Calls Try.prog 31 #[.pointer (some ⟨jb, 0, none⟩), .string ⟨#[97]⟩] wx (fun e w' => DoneOut jb base g aR2 (jC 0 1 1 2 3 g false) wx e w')) := fun jb base g wx h1 h2 h3 => by
    have e1 : layS aR1.1 1 2 (Frm.put 1 ((0 + 1 : Nat) : Int) aA).1 (parts (Frm.put 1 ((0 + 1 : Nat) : Int) aA).1) = aR2 := by
      unfold aR2 aF2
      rw [HA.n1]
      rfl
    have e2 : parts (Frm.put 1 ((0 + 1 : Nat) : Int) aA).1 = 1 := HA.n2
    have := append_yes jb base g 0 1 aR1.1 2 1 0 (str aA) wx h1 h2 h3 HA.ok1 (by have := HA.w1; omega) (by omega) (by omega) (by omega) (by rw [str_size]; show 1 ≤ 1000000; omega) (by omega) (by omega) (by rw [str_data, c2]; omega)
      (by rw [str_data, c2]; unfold LeftI; rw [HA.l1]; rfl) (by rw [str_data, e2, HA.l1]; omega) (by omega) (by omega)
    rw [str_data, e1, e2] at this
    exact this
  have HOp : Hid (∀ base g wx, StorW.Is wx base g aR2.1 → Calls Try.prog 37 #[.pointer (some ⟨g, 0, none⟩)] wx (fun e w' => ∃ jb A c, e = .returned (.tuple #[.pointer (some ⟨jb, 0, none⟩), .string ⟨#[105, 109, 97, 103, 101]⟩, .slice A 1 c, .int .i64 0]) ∧ wx.heap.size ≤ jb ∧ Blk w' jb 64 (jC 0 1 1 ((2 : Nat) : Int) (Jrn.stamped aR2.1.bs) g false) ∧ TxW w' wx.heap.size A 1 c [aA] ∧ Below wx.heap.size wx w')) := fun base g wx h => by
    have := open_yes base g aR2.1 wx h HA.ok2 HA.on2 (by rw [HA.l2]; omega) (by rw [HA.ct])
    rw [HA.ct] at this
    exact this
  have HTn : Hid (∀ jb base g wx, Blk wx jb 64 (jC 0 1 1 ((2 : Nat) : Int) (Jrn.stamped aR2.1.bs) g false) → base ≤ jb → StorW.Is wx base g aR2.1 → Calls Try.prog 32 #[.pointer (some ⟨jb, 0, none⟩), .string ⟨#[110, 101, 119]⟩] wx (fun e w' => DoneOut jb base g aR3 (jC ((1 : Nat) : Int) 2 0 ((5 : Nat) : Int) (Jrn.stamped aR2.1.bs + 1) g false) wx e w')) := fun jb base g wx h1 h2 h3 => by
    have e1 : layS aR2.1 ((1 - 0) * (aR2.1.bs.length / 2)) (Jrn.stamped aR2.1.bs) (Frm.put (1 + 1) 0 aNw).1 (parts (Frm.put (1 + 1) 0 aNw).1) = aR3 := by unfold aR3 aF3; rfl
    have e2 : parts (Frm.put (1 + 1) 0 aNw).1 = 1 := HA.n3
    have := turn_yes jb base g 0 2 aR2.1 (Jrn.stamped aR2.1.bs) 1 1 (str aNw) wx h1 h2 h3 HA.ok2 (by have := HA.w2; omega) (by omega) (by rw [str_size]; show 3 ≤ 1000000; omega) (by omega) (by omega) (by rw [str_data, c3]; omega)
      (by rw [str_data, c3, HA.l2]; rfl) (by rw [str_data, e2, HA.l2]; omega) HA.s1 (by have := HA.s2; omega)
    rw [str_data, e1, e2, HA.l2] at this
    exact this
  have HNo := Lib.hid fun wx => format_no (.pointer none) ⟨#[]⟩ wx (.inl rfl)
  have HNd := Lib.hid fun wx => need_any ⟨#[]⟩ wx (by show 0 ≤ 1000000000; omega)
  have HNd0 : Hid (Jrn.need (⟨#[]⟩ : ByteArray).data.toList = 1) := rfl
  have HE := Lib.hid HA
  clear HFm HA c1 c2 c3
  go_enter Try.func38, Try.ntmps38
  go_wp2_with fail
  refine HNew.out.mono ?_
  rintro e w1 ⟨g, rfl, i1, b1⟩
  have HI1 := Lib.hid (HFm2.out w.heap.size g w1 i1 b1.size)
  have hB1 := Lib.hid b1
  clear i1 b1
  go_wp2_with fail
  refine HI1.out.mono ?_
  rintro e w2 ⟨jb, rfl, hjb, hb2, i2, b2, k2⟩
  have hB2 := Lib.hid (hB1.out.trans b2)
  have hgj : w.heap.size ≤ jb := Nat.le_trans hB1.out.size hjb
  have HI2 := Lib.hid (HAp.out jb w.heap.size g w2 hb2 hgj i2)
  clear hb2 i2 b2 k2 HI1
  go_wp2_with fail
  refine HI2.out.mono ?_
  rintro e w3 ⟨rfl, hb3, i3, b3, k3⟩
  have hB3 := Lib.hid (hB2.out.trans b3)
  have HI3 := Lib.hid (HOp.out w.heap.size g w3 i3)
  have Hi3 := Lib.hid i3
  rw [HE.out.e2]
  clear hb3 i3 b3 k3 HI2
  go_wp2_with fail
  refine HI3.out.mono ?_
  rintro e w4 ⟨kb, A, c, rfl, hkb, hb4, ht4, b4⟩
  have hB4 := Lib.hid (below_step hB3.out b4)
  have hgk : w.heap.size ≤ kb := Nat.le_trans hB3.out.size hkb
  have HI4 := Lib.hid (HTn.out kb w.heap.size g w4 hb4 hgk (Hi3.out.below b4))
  have Ht4 := Lib.hid ht4
  clear hb4 ht4 b4 HI3
  go_wp2_with fail
  refine HI4.out.mono ?_
  rintro e w5 ⟨rfl, hb5, i5, b5, k5⟩
  have hB5 := Lib.hid (hB4.out.trans b5)
  have hJ5 := hb5 HE.out.e3
  have ht5 := Ht4.out.keepJ k5
  obtain ⟨b, off, s, hA, hlt, hs0, hc0⟩ := ht5.txs.at_ (show 0 < 1 by omega)
  have hs1 : s = aA := by simpa using hs0.symm
  subst hs1
  have hc0' : w5.cell? ⟨b, off, none⟩ = some (.string ⟨#[97]⟩) := hc0
  have HLf := Lib.hid (life_ok kb g ((1 : Nat) : Int) 2 0 ((5 : Nat) : Int) (Jrn.stamped aR2.1.bs + 1) w5 hJ5)
  have HCt := Lib.hid (count_ok kb g ((1 : Nat) : Int) 2 0 ((5 : Nat) : Int) (Jrn.stamped aR2.1.bs + 1) w5 hJ5)
  have HLt := Lib.hid (left_ok kb w.heap.size g aR3.1 2 0 (Jrn.stamped aR2.1.bs + 1) w5 1 5 hJ5 i5 HE.out.ok3 (by omega) (by omega))
  have e8 : (((1 + 1) * (aR3.1.bs.length / 2) : Nat) : Int) - ((5 : Nat) : Int) = 3 := by rw [HE.out.l3]; rfl
  rw [e8] at HLt
  rw [HE.out.e3]
  subst hA
  clear hb5 i5 b5 k5 HI4 hc0 hs0 ht5
  go_wp2_with fail
  refine (HNo.out _).mono ?_
  rintro e w6 ⟨rfl, hw⟩
  subst hw
  go_wp2_with fail
  refine HLf.out.mono ?_
  rintro e w6 ⟨rfl, hw⟩
  subst hw
  go_wp2_with fail
  refine HCt.out.mono ?_
  rintro e w6 ⟨rfl, hw⟩
  subst hw
  go_wp2_with fail
  refine HLt.out.mono ?_
  rintro e w6 ⟨rfl, m, hw⟩
  go_wp2_with fail
  refine (HNd.out _).mono ?_
  rintro e w7 ⟨rfl, hw7⟩
  subst hw7
  rw [HNd0.out]
  go_wp2_with fail
  go_ret
  subst hw
  exact ⟨rfl, hB5.out.trans (below_drewN (Below.refl _ _) m)⟩
end Go.Proofs.Ytdhnegcblnpmfaa.JrnW

namespace Go.Proofs.Ytdhnegcblnpmfaa.JrnW
open Go.RowKit Mem Jrn PackW FrameW
set_option linter.unusedVariables false
set_option linter.unusedSimpArgs false

structure Acj where
  kd : Int
  a : Int
  b : Int
  tx : List UInt8
def acjRow (x : Acj) : List Value := [.int .i64 x.kd, .int .i64 x.a, .int .i64 x.b, .string (str x.tx)]
abbrev Acjs := Lst acjRow 4
theorem fitsE_of (n b : Int) : (fitsE n b = 0 ∧ n ≤ 255 ∧ n ≤ b) ∨ fitsE n b = 3 ∨ fitsE n b = 341 := by
  unfold fitsE
  split
  · exact .inr (.inl rfl)
  · split
    · exact .inr (.inr rfl)
    · exact .inl ⟨rfl, by omega, by omega⟩
/-- what stands when the run is over and the power has come again -/
def RunEnd (H : Nat) (s : Stor.Sto) (im : List UInt8) (ev wy : List (List UInt8)) (tn : Bool) : Prop := ∃ area next life im2 ev2, Jrn.Sound (again s) H area next life (Jrn.stamped s.bs) im2 ev2 ∧ Jrn.stamped s.bs ≤ 65536 ∧ life ≤ 100 ∧ ev2.length ≤ 100 ∧
  ((im2 = im ∧ ev2 = ev) ∨ (tn = true ∧ wy = [im2] ∧ ev2 = []) ∨ (tn = false ∧ ∃ x, wy = [x] ∧ im2 = im ∧ ev2 = ev ++ [x]))
def RunOut (W0 : World) (H g : Nat) (w : World) (e : Ending) (w' : World) : Prop := ∃ im ev wy tn A1 c1 A2 c2 s', e = .returned (.tuple #[.string (str im), .slice A1 ev.length c1, .slice A2 wy.length c2, .bool tn]) ∧
  TxW w' W0.heap.size A1 ev.length c1 ev ∧ ev.length ≤ 50 ∧ TxW w' W0.heap.size A2 wy.length c2 wy ∧ StorW.Is w' W0.heap.size g s' ∧ Below W0.heap.size w w' ∧ s'.Ok ∧ s'.wr ≤ 1000 ∧ s'.bs.length = 2 * H ∧ wy.length ≤ 1 ∧ RunEnd H s' im ev wy tn
/-- how far the run is -/
structure RunSt (W0 : World) (jb g H k : Nat) (w : World) (im : List UInt8) (ev : List (List UInt8)) (A : Option Addr) (c : Nat) (s : Stor.Sto) (area next : Nat) (life st : Int) : Prop where
  good : Jrn.Good s H area next life st im ev
  blk : Blk w jb 64 (jC area life ev.length next st g false)
  is : StorW.Is w W0.heap.size g s
  own : TxW w W0.heap.size A ev.length c ev
  st1 : st ≤ 21 + 20 * k
  lf : life ≤ 1 + k
  few : ev.length ≤ k
  wr : s.wr ≤ 20 + 20 * k
  bel : Below W0.heap.size W0 w
theorem RunSt.next {W0 : World} {jb g H k : Nat} {w : World} {im : List UInt8} {ev : List (List UInt8)} {A : Option Addr} {c : Nat} {s : Stor.Sto} {area next : Nat} {life st : Int} (h : RunSt W0 jb g H k w im ev A c s area next life st) {w' : World} (hb : Below w.heap.size w w') : RunSt W0 jb g H (k + 1) w' im ev A c s area next life st :=
  ⟨h.good, h.blk.below hb h.blk.lt, h.is.below hb, h.own.below hb, by have := h.st1; omega, by have := h.lf; omega, by have := h.few; omega, by have := h.wr; omega, below_step h.bel hb⟩
theorem RunSt.area {W0 : World} {jb g H k : Nat} {w : World} {im : List UInt8} {ev : List (List UInt8)} {A : Option Addr} {c : Nat} {s : Stor.Sto} {area next : Nat} {life st : Int} (h : RunSt W0 jb g H k w im ev A c s area next life st) (hH : H ≤ 20) : area < 2 ∧ next ≤ 40 ∧ s.bs.length = 2 * H ∧ (area + 1) * H ≤ 2 * H ∧ next ≤ (area + 1) * H ∧ (area + 1) * H ≤ next + H := by
  have hi := h.good.sound.inv
  have ha := hi.ar
  have h2 : (area + 1) * H ≤ 2 * H := Nat.mul_le_mul_right _ (by omega)
  have h3 := hi.chain.le.2 (by simp)
  have h4 := hi.chain.le.1
  exact ⟨ha, by omega, hi.even, h2, h3, by rw [Nat.add_mul, Nat.one_mul]; omega⟩
theorem RunSt.ended {W0 : World} {jb g H k : Nat} {w : World} {im : List UInt8} {ev : List (List UInt8)} {A : Option Addr} {c : Nat} {s : Stor.Sto} {area next : Nat} {life st : Int} (h : RunSt W0 jb g H k w im ev A c s area next life st) (hk : k ≤ 40) : RunEnd H s im ev [] false := by
  have h1 := stamped_le h.good.sound.ok.whole h.good.sound.fresh h.good.sound.st1
  have := h.st1
  have := h.lf
  have := h.few
  exact ⟨area, next, life, im, ev, h.good.sound.again, by omega, by omega, by omega, .inl ⟨rfl, rfl⟩⟩
theorem RunSt.drewN {W0 : World} {jb g H k : Nat} {w : World} {im : List UInt8} {ev : List (List UInt8)} {A : Option Addr} {c : Nat} {s : Stor.Sto} {area next : Nat} {life st : Int} (h : RunSt W0 jb g H k w im ev A c s area next life st) (m : Nat) : RunSt W0 jb g H (k + 1) (w.drewN m) im ev A c s area next life st := h.next (below_drewN (Below.refl _ _) m)
theorem grown_same {W W' : World} {base : Nat} {A : Option Addr} {n c k : Nat} {l : List (List UInt8)} {cs : Array Value} {t : TypeId} {fr : Nat × Nat} (h : TxW W base A n c l) (hg : W.grownBy W' (Value.slice A n c).ownBlock) (hk : W.heap[k]? = some (.cells cs t fr)) (ht : t ≠ 9) : W'.heap[k]? = some (.cells cs t fr) := by
  refine (hg.block k (lt_of_block hk) fun e => ?_).trans hk
  rcases h.shape with ⟨e', _⟩ | ⟨g, cur, e', _, hh, _⟩
  · rw [e'] at e; simp [Value.ownBlock] at e
  · rw [e'] at e
    simp only [Value.ownBlock, Option.some.injEq] at e
    subst e
    rw [hk] at hh
    injection hh with hh
    injection hh with _ hh
    exact ht hh
theorem keep_j {W W' : World} {base : Nat} {A : Option Addr} {n c jb : Nat} {l : List (List UInt8)} {cs : Array Value} (hb : Blk W jb 64 cs) (h : TxW W base A n c l) (hg : W.grownBy W' (Value.slice A n c).ownBlock) : Blk W' jb 64 cs := grown_same h hg hb (by decide)
theorem is_grown {W W' : World} {base base' g : Nat} {A : Option Addr} {n c : Nat} {l : List (List UInt8)} {s : Stor.Sto} (hi : StorW.Is W base' g s) (h : TxW W base A n c l) (hg : W.grownBy W' (Value.slice A n c).ownBlock) : StorW.Is W' base' g s := by
  obtain ⟨hs, A2, c2, hi⟩ := hi
  refine ⟨hs, A2, c2, hi.gb, grown_same h hg hi.blk (by decide), ⟨hi.own.1, ?_⟩, hi.len, hi.nodup, fun j x b h1 h2 => ⟨(hi.data j x b h1 h2).1, grown_same h hg (hi.data j x b h1 h2).2 (by decide)⟩⟩
  rcases hi.own.2 with h2 | ⟨g', cap, cur, hv', hg', hh, r⟩
  · exact .inl h2
  · exact .inr ⟨g', cap, cur, hv', hg', grown_same h hg hh (by decide), r⟩
theorem txw_one {w : World} {g base : Nat} {x : List UInt8} (h : Blk w g 9 #[.string (str x)]) (hb : base ≤ g) : TxW w base (some ⟨g, 0, none⟩) 1 1 [x] := by
  refine ⟨by simp [sv], .inr ⟨g, 1, #[.string (str x)], rfl, hb, h, by omega, by simp [maxLen], by simp, by simp [sv]⟩⟩
theorem txs_one {w : World} {g : Nat} {T : TypeId} {x : List UInt8} (h : Blk w g T #[.string (str x)]) : Txs w (some ⟨g, 0, none⟩) 1 [x] := by
  refine ⟨rfl, fun _ => ⟨g, 0, rfl, h.lt, fun i v hv => ?_⟩⟩
  match i with
  | 0 => simp [sv] at hv; subst hv; exact h.cell 0
  | i + 1 => simp [sv] at hv
set_option maxHeartbeats 20000000 in
set_option maxRecDepth 100000 in
theorem run_any (W0 : World) (jb g H n c : Nat) (A : Option Addr) (l : List Acj) (im0 : List UInt8) (s0 : Stor.Sto) (nx0 : Nat) (st0 : Int) (w : World) (hL : Acjs W0 A n l) (hn : n ≤ 40) (hx : ∀ x ∈ l, x.tx.length ≤ 70000) (hH : H ≤ 20) (hjb : W0.heap.size ≤ jb)
    (hR : RunSt W0 jb g H 0 w im0 [] none 0 s0 0 nx0 1 st0) :
    Calls Try.prog 40 #[.pointer (some ⟨jb, 0, none⟩), .string (str im0), .slice A n c] w (RunOut W0 H g w) := by
  have hl := hL.len
  subst hl
  have HL := Lib.hid hL
  have HX := Lib.hid hx
  have HR0 := Lib.hid hR
  have hbw := hR.bel.size
  obtain ⟨i0, hi0, hz0, hz1, hz2⟩ := info_parts StorW.strInfo
  clear hL hx hR
  go_enter Try.func40, Try.ntmps40
  go_wp2_with fail
  go_loopw [1, 10, 11] (fun p q r wr => ∃ (k : Nat) (im : List UInt8) (ev : List (List UInt8)) (A' : Option Addr) (c' : Nat) (s : Stor.Sto) (area next : Nat) (life st : Int), k ≤ l.length ∧ p = .string (str im) ∧ q = .slice A' ev.length c' ∧ r = .int .i64 k ∧ RunSt W0 jb g H k wr im ev A' c' s area next life st ∧ Below W0.heap.size w wr)
    (fun _ _ r _ => l.length - (intOf r).toNat)
  case atStart => exact ⟨0, im0, [], none, 0, s0, 0, nx0, 1, st0, by omega, rfl, rfl, rfl, HR0.out, Below.refl _ _⟩
  case round =>
    obtain ⟨k, im, ev, A', c', s, area, next, life, st, hk, rfl, rfl, rfl, hst, hbel⟩ := hrel
    by_cases hlt : k < l.length
    case neg =>
      obtain rfl : k = l.length := by omega
      have HSt := Lib.hid hst
      have HB := Lib.hid hbel
      clear hst hbel
      go_wp2_with fail
      refine bodyPost_ret (v := .tuple #[.string (str im), .slice A' ev.length c', .slice none 0 0, .bool false]) (by simp [results, Try.results40, go_sem]) rfl ?_
      have h := HSt.out
      exact ⟨im, ev, [], false, A', c', none, 0, s, rfl, h.own, by have := h.few; omega, TxW.nil _ _, h.is, HB.out, h.good.sound.ok, by have := h.wr; omega, h.good.sound.inv.even, by simp, h.ended (by omega)⟩
    obtain ⟨b, off, x, rfl, hbl, hx, hc⟩ := HL.out.at_ hlt
    have d0 : wr.cell? ⟨b, off + k * 4, none⟩ = some (.int .i64 x.kd) := (hst.bel.cell (p := ⟨b, off + k * 4, none⟩) hbl).trans (hc 0 _ rfl)
    have d3 : wr.cell? ⟨b, off + k * 4 + 3, none⟩ = some (.string (str x.tx)) := (hst.bel.cell (p := ⟨b, off + k * 4 + 3, none⟩) hbl).trans (hc 3 _ rfl)
    have HD3 : Hid (∀ w', Below W0.heap.size W0 w' → w'.cell? ⟨b, off + k * 4 + 3, none⟩ = some (.string (str x.tx))) := fun w' hb => (hb.cell (p := ⟨b, off + k * 4 + 3, none⟩) hbl).trans (hc 3 _ rfl)
    have HD0 : Hid (∀ w', Below W0.heap.size W0 w' → w'.cell? ⟨b, off + k * 4, none⟩ = some (.int .i64 x.kd)) := fun w' hb => (hb.cell (p := ⟨b, off + k * 4, none⟩) hbl).trans (hc 0 _ rfl)
    have htx := HX.out x (List.mem_of_getElem? hx)
    have hbs : (str x.tx).size ≤ 1000000 := by rw [str_size]; omega
    obtain ⟨har, hnx, hE, h2H, hne, hlo⟩ := hst.area hH
    have hhalf : s.bs.length / 2 = H := by omega
    have HSt := Lib.hid hst
    have HB := Lib.hid hbel
    have hgood := hst.good
    have hs1 := hst.st1
    have hlf := hst.lf
    have hfw := hst.few
    have hwr := hst.wr
    have hl1 := hgood.sound.inv.life1
    have hst1 := hgood.sound.st1
    have hlen : (ev.length : Int) ≤ 40 := by omega
    clear hx hc
    by_cases hk3 : x.kd = 3
    case neg =>
      have e3 : (x.kd == 3) = false := by simpa using hk3
      by_cases hk2 : x.kd = 2
      case neg =>
        have e2 : (x.kd == 2) = false := by simpa using hk2
        clear hk3 hk2 hst
        go_wp2_with fail
        exact ⟨⟨k + 1, im, ev, A', c', s, area, next, life, st, by omega, rfl, rfl, by go_num, HSt.out.next (Below.refl _ _), HB.out⟩, by simp [intOf]; omega⟩
      have e2 : (x.kd == 2) = true := by simpa using hk2
      clear hk3 hk2
      rcases fitsE_of (need x.tx) (LeftI area next s.bs.length) with ⟨hf, hf1, hf2⟩ | hf
      case inr =>
        obtain ⟨v, hv, hv0, hv1⟩ : ∃ v : Int, fitsE (need x.tx) (LeftI area next s.bs.length) = v ∧ v ≠ 0 ∧ (v = 3 ∨ v = 341) := by
          rcases hf with h | h
          · exact ⟨3, h, by omega, .inl rfl⟩
          · exact ⟨341, h, by omega, .inr rfl⟩
        have HA := Lib.hid (append_no jb W0.heap.size g area next s st life ev.length v (str x.tx) wr hst.blk hst.is hgood.sound.ok har (by omega) hbs (by rw [str_data]; exact hv) hv0)
        have e5 : (v == 0) = false := by simpa using hv0
        have e6 : ((v != 341) = false) ∨ ((v != 341) = true ∧ (v != 3) = false) := by
          rcases hv1 with rfl | rfl
          · exact .inr ⟨rfl, rfl⟩
          · exact .inl rfl
        clear hst hv hv1 hf hv0
        rcases e6 with e6 | ⟨e6, e7⟩
        all_goals
          go_wp2_with fail
          refine HA.out.mono ?_
          rintro e w1 ⟨rfl, m, hm⟩
          have hst1' : RunSt W0 jb g H (k + 1) w1 im ev A' c' s area next life st := by rw [hm]; exact HSt.out.drewN m
          have hb1' : Below W0.heap.size w w1 := by rw [hm]; exact below_drewN HB.out m
          clear hm
          go_wp2_with fail
          exact ⟨⟨k + 1, im, ev, A', c', s, area, next, life, st, by omega, rfl, rfl, by go_num, hst1', hb1'⟩, by simp [intOf]; omega⟩
      have hpp := put_framed (life := life) (seq := ((ev.length + 1 : Nat) : Int)) (body := x.tx) (by omega) (by omega) (by omega) (by omega) hf1
      have hleft : need x.tx ≤ (((area + 1) * H : Nat) : Int) - next := by unfold LeftI at hf2; rw [hhalf] at hf2; exact hf2
      have HA := Lib.hid (append_yes jb W0.heap.size g area next s st life ev.length (str x.tx) wr hst.blk hjb hst.is hgood.sound.ok (by omega) har (by omega) (by omega) hbs (by omega) (by omega) (by rw [str_data]; exact hf1) (by rw [str_data]; exact hf) (by rw [str_data]; omega) hst1 (by omega))
      rw [str_data] at HA
      have hout := hgood.append (body := x.tx) (by omega) (by omega) (by omega) hf1 hleft
      have hwr2 := layS_wr s next st (Frm.put life ((ev.length + 1 : Nat) : Int) x.tx).1 (parts (Frm.put life ((ev.length + 1 : Nat) : Int) x.tx).1)
      have hlen2 := layS_len s next st (Frm.put life ((ev.length + 1 : Nat) : Int) x.tx).1 (parts (Frm.put life ((ev.length + 1 : Nat) : Int) x.tx).1)
      have hok2 := layS_ok next st (Frm.put life ((ev.length + 1 : Nat) : Int) x.tx).1 hgood.sound.ok (parts (Frm.put life ((ev.length + 1 : Nat) : Int) x.tx).1)
      obtain ⟨np, hnp⟩ : ∃ np, np = parts (Frm.put life ((ev.length + 1 : Nat) : Int) x.tx).1 := ⟨_, rfl⟩
      have hnp20 : np ≤ 20 := by omega
      rw [← hnp] at HA hout hwr2 hlen2 hok2
      obtain ⟨r, hr⟩ : ∃ r, r = layS s next st (Frm.put life ((ev.length + 1 : Nat) : Int) x.tx).1 np := ⟨_, rfl⟩
      rw [← hr] at HA hout hwr2 hlen2 hok2
      obtain ⟨rs, re⟩ := r
      simp only at hout hwr2 hlen2 hok2
      have HOut := Lib.hid hout
      have HOwn := Lib.hid hst.own
      have HWl := Lib.hid hwr2
      have HOk := Lib.hid hok2
      have HLn := Lib.hid hlen2
      clear hst hf hf1 hf2 hpp hleft hout hnp hr hwr2 hok2 hlen2
      go_wp2_with fail
      refine HA.out.mono ?_
      rintro e w1 ⟨rfl, hblk, his, hb1, hk1⟩
      have HBlk := Lib.hid hblk
      have HIs := Lib.hid his
      have HB1 := Lib.hid (HSt.out.bel.trans hb1)
      have HBw := Lib.hid (HB.out.trans hb1)
      have HOwn1 := Lib.hid (HOwn.out.keepJ hk1)
      have c3 := HD3.out w1 HB1.out
      simp only at HIs HBlk ⊢
      clear hblk his hb1 hk1 d0 d3
      rcases HOut.out with ⟨hre, hg⟩ | ⟨hre, nx', ev', hsnd, hev, hsm⟩
      · subst hre
        have HG := Lib.hid hg
        have HK := Lib.hid (HBlk.out rfl)
        clear hg HBlk HOut
        obtain ⟨U, hU⟩ : ∃ U, U = w1.alloc (.cells #[.string (str x.tx)] 9) := ⟨_, rfl⟩
        have bU : Below w1.heap.size w1 U := by rw [hU]; exact (Below.refl _ _).alloc (Nat.le_refl _) _
        have hrd : Rd U (some ⟨w1.heap.size, 0, none⟩) 1 1 [.string (str x.tx)] := by rw [hU]; exact Rd.one w1 (.string (str x.tx)) 9
        obtain ⟨A3, c3', w3, hrun, o3, hgr3, b3, _⟩ := app_own (P := Try.prog) U W0.heap.size 34 34 9 i0 _ 1 16 Try.underlying34 hi0 hz0 hz1 hz2 rfl (by omega) A' ev.length c' _ (HOwn1.out.below bU) (some ⟨w1.heap.size, 0, none⟩) 1 1 _ hrd (by simp) (by simp; rfl) (by simp [maxLen]; omega) (by omega) (Nat.le_trans HB1.out.size bU.size)
        have HO3 : Hid (TxW w3 W0.heap.size A3 (ev.length + 1) c3' (ev ++ [x.tx])) := by
          show TxW _ _ _ _ _ _
          unfold TxW
          rw [show sv (ev ++ [x.tx]) = sv ev ++ [.string (str x.tx)] by simp [sv]]
          exact o3
        have HR := Lib.hid hrun
        rw [hU] at HR
        have hJ3 := keep_j (HK.out.below bU HK.out.lt) (HOwn1.out.below bU) hgr3
        have hI3 := is_grown (HIs.out.below bU) (HOwn1.out.below bU) hgr3
        have HJ3 := Lib.hid hJ3
        have HI3 := Lib.hid hI3
        have HB3 := Lib.hid ((HB1.out.trans (bU.mono HB1.out.size)).trans b3)
        have HBw3 := Lib.hid ((HBw.out.trans (bU.mono HB1.out.size)).trans b3)
        clear o3 hrun hgr3 b3 hU bU hrd hJ3 hI3
        go_wp2_with (at_builtin; refine wpList_app rfl _ _ rfl rfl rfl HR.out ?_)
        have hlen1 : (ev ++ [x.tx]).length = ev.length + 1 := by simp
        refine ⟨⟨k + 1, im, ev ++ [x.tx], A3, c3', rs, area, next + np, life, st + np, by omega, rfl, by rw [hlen1], by go_num, ⟨HG.out, ?_, HI3.out, ?_, by omega, by omega, by omega, by have := HWl.out.2; omega, HB3.out⟩, HBw3.out⟩, by simp [intOf]; omega⟩
        · rw [hlen1]; exact HJ3.out
        · rw [hlen1]; exact HO3.out
      · subst hre
        have HSn := Lib.hid hsnd
        have HEv := Lib.hid hev
        have HSm := Lib.hid hsm
        clear hsnd hsm HBlk HOut
        have c3d : w1.drew.cell? ⟨b, off + k * 4 + 3, none⟩ = some (.string (str x.tx)) := c3
        go_wp2_with fail
        go_region
        all_goals go_wp2_with fail
        have bU : Below w1.heap.size w1 ((w1.alloc (.cells #[.string (str x.tx)] 9)).drew) := ((Below.refl _ _).alloc (Nat.le_refl _) _).drew
        have hsz1 := HB1.out.size
        refine bodyPost_ret (v := .tuple #[.string (str im), .slice A' ev.length c', .slice (some ⟨w1.heap.size, 0, none⟩) 1 1, .bool false]) (by simp [results, Try.results40, go_sem]) rfl ?_
        have hev := HEv.out
        refine ⟨im, ev, [x.tx], false, A', c', some ⟨w1.heap.size, 0, none⟩, 1, rs, rfl, HOwn1.out.below bU, by omega, txw_one ((Blk.new w1 9 #[.string (str x.tx)]).drew) hsz1, HIs.out.below bU, HBw.out.trans (bU.mono hsz1), HOk.out, by have := HWl.out.2; omega, by have := HLn.out; omega, by simp, area, nx', life, im, ev', HSn.out, HSm.out, by omega, ?_, ?_⟩
        · rcases hev with rfl | rfl
          · omega
          · simp; omega
        · rcases hev with rfl | rfl
          · exact .inl ⟨rfl, rfl⟩
          · exact .inr (.inr ⟨rfl, x.tx, rfl, rfl, rfl⟩)
    case pos =>
      have e3 : (x.kd == 3) = true := by simpa using hk3
      clear hk3
      rcases fitsE_of (need x.tx) ((s.bs.length / 2 : Nat) : Int) with ⟨hf, hf1, hf2⟩ | hf
      case inr =>
        obtain ⟨v, hv, hv0, hv1⟩ : ∃ v : Int, fitsE (need x.tx) ((s.bs.length / 2 : Nat) : Int) = v ∧ v ≠ 0 ∧ (v = 3 ∨ v = 341) := by
          rcases hf with h | h
          · exact ⟨3, h, by omega, .inl rfl⟩
          · exact ⟨341, h, by omega, .inr rfl⟩
        have HA := Lib.hid (turn_no jb W0.heap.size g area next s st life ev.length v (str x.tx) wr hst.blk hst.is hgood.sound.ok hbs (by rw [str_data]; exact hv) hv0)
        have e5 : (v == 0) = false := by simpa using hv0
        have e6 : ((v != 341) = false) ∨ ((v != 341) = true ∧ (v != 3) = false) := by
          rcases hv1 with rfl | rfl
          · exact .inr ⟨rfl, rfl⟩
          · exact .inl rfl
        clear hst hv hv1 hf hv0
        rcases e6 with e6 | ⟨e6, e7⟩
        all_goals
          go_wp2_with fail
          refine HA.out.mono ?_
          rintro e w1 ⟨rfl, m, hm⟩
          have hst1' : RunSt W0 jb g H (k + 1) w1 im ev A' c' s area next life st := by rw [hm]; exact HSt.out.drewN m
          have hb1' : Below W0.heap.size w w1 := by rw [hm]; exact below_drewN HB.out m
          clear hm
          go_wp2_with fail
          exact ⟨⟨k + 1, im, ev, A', c', s, area, next, life, st, by omega, rfl, rfl, by go_num, hst1', hb1'⟩, by simp [intOf]; omega⟩
      have hpp := put_framed (life := life + 1) (seq := 0) (body := x.tx) (by omega) (by omega) (by omega) (by omega) hf1
      have hleft : need x.tx ≤ H := by rw [hhalf] at hf2; exact hf2
      have h1H : (1 - area) * H ≤ 1 * H := Nat.mul_le_mul_right _ (by omega)
      have HA := Lib.hid (turn_yes jb W0.heap.size g area next s st life ev.length (str x.tx) wr hst.blk hjb hst.is hgood.sound.ok (by omega) har hbs (by omega) (by omega) (by rw [str_data]; exact hf1) (by rw [str_data]; exact hf) (by rw [str_data, hhalf]; omega) hst1 (by omega))
      rw [str_data, hhalf] at HA
      have hout := hgood.turn (body := x.tx) (by omega) (by omega) hf1 hleft
      have hwr2 := layS_wr s ((1 - area) * H) st (Frm.put (life + 1) 0 x.tx).1 (parts (Frm.put (life + 1) 0 x.tx).1)
      have hlen2 := layS_len s ((1 - area) * H) st (Frm.put (life + 1) 0 x.tx).1 (parts (Frm.put (life + 1) 0 x.tx).1)
      have hok2 := layS_ok ((1 - area) * H) st (Frm.put (life + 1) 0 x.tx).1 hgood.sound.ok (parts (Frm.put (life + 1) 0 x.tx).1)
      obtain ⟨np, hnp⟩ : ∃ np, np = parts (Frm.put (life + 1) 0 x.tx).1 := ⟨_, rfl⟩
      have hnp20 : np ≤ 20 := by omega
      rw [← hnp] at HA hout hwr2 hlen2 hok2
      obtain ⟨r, hr⟩ : ∃ r, r = layS s ((1 - area) * H) st (Frm.put (life + 1) 0 x.tx).1 np := ⟨_, rfl⟩
      rw [← hr] at HA hout hwr2 hlen2 hok2
      obtain ⟨rs, re⟩ := r
      simp only at hout hwr2 hlen2 hok2
      have HOut := Lib.hid hout
      have HOwn := Lib.hid hst.own
      have HWl := Lib.hid hwr2
      have HOk := Lib.hid hok2
      have HLn := Lib.hid hlen2
      clear hst hf hf1 hf2 hpp hleft hout hnp hr hwr2 hok2 hlen2
      go_wp2_with fail
      refine HA.out.mono ?_
      rintro e w1 ⟨rfl, hblk, his, hb1, hk1⟩
      have HBlk := Lib.hid hblk
      have HIs := Lib.hid his
      have HB1 := Lib.hid (HSt.out.bel.trans hb1)
      have HBw := Lib.hid (HB.out.trans hb1)
      have HOwn1 := Lib.hid (HOwn.out.keepJ hk1)
      have c3 := HD3.out w1 HB1.out
      simp only at HIs HBlk ⊢
      clear hblk his hb1 hk1 d0 d3
      rcases HOut.out with ⟨hre, hg⟩ | ⟨hre, ar', nx', lf', im', ev', hsnd, hlf', hev, hsm⟩
      · subst hre
        have HG := Lib.hid hg
        have HK := Lib.hid (HBlk.out rfl)
        clear hg HBlk HOut
        go_wp2_with fail
        refine ⟨⟨k + 1, x.tx, [], none, 0, rs, 1 - area, (1 - area) * H + np, life + 1, st + np, by omega, rfl, rfl, by go_num, ⟨HG.out, HK.out, HIs.out, TxW.nil _ _, by omega, by omega, by simp, by have := HWl.out.2; omega, HB1.out⟩, HBw.out⟩, by simp [intOf]; omega⟩
      · subst hre
        have HSn := Lib.hid hsnd
        have HEv := Lib.hid hev
        have HSm := Lib.hid hsm
        clear hsnd hsm HBlk HOut hev
        have c3d : w1.drew.cell? ⟨b, off + k * 4 + 3, none⟩ = some (.string (str x.tx)) := c3
        go_wp2_with fail
        go_region
        all_goals go_wp2_with fail
        have bU : Below w1.heap.size w1 ((w1.alloc (.cells #[.string (str x.tx)] 9)).drew) := ((Below.refl _ _).alloc (Nat.le_refl _) _).drew
        have hsz1 := HB1.out.size
        refine bodyPost_ret (v := .tuple #[.string (str im), .slice A' ev.length c', .slice (some ⟨w1.heap.size, 0, none⟩) 1 1, .bool true]) (by simp [results, Try.results40, go_sem]) rfl ?_
        have hev := HEv.out
        refine ⟨im, ev, [x.tx], true, A', c', some ⟨w1.heap.size, 0, none⟩, 1, rs, rfl, HOwn1.out.below bU, by omega, txw_one ((Blk.new w1 9 #[.string (str x.tx)]).drew) hsz1, HIs.out.below bU, HBw.out.trans (bU.mono hsz1), HOk.out, by have := HWl.out.2; omega, by have := HLn.out; omega, by simp, ar', nx', lf', im', ev', HSn.out, HSm.out, by omega, ?_, ?_⟩
        · rcases hev with ⟨rfl, rfl⟩ | ⟨rfl, rfl⟩
          · omega
          · simp
        · rcases hev with ⟨rfl, rfl⟩ | ⟨rfl, rfl⟩
          · exact .inl ⟨rfl, rfl⟩
          · exact .inr (.inl ⟨rfl, rfl, rfl⟩)
end Go.Proofs.Ytdhnegcblnpmfaa.JrnW

namespace Go.Proofs.Ytdhnegcblnpmfaa.JrnW
open Go.RowKit Mem Jrn PackW FrameW
set_option linter.unusedVariables false
set_option linter.unusedSimpArgs false

def fewB (l : List Acj) : Bool := decide (l.length ≤ 40) && l.all (fun x => decide (x.tx.length ≤ 70000))
set_option maxHeartbeats 1000000 in
theorem few_any (A : Option Addr) (n c : Nat) (l : List Acj) (w : World) (h : Acjs w A n l) (hn : n ≤ maxLen) (hx : ∀ x ∈ l, x.tx.length ≤ maxLen) : Calls Try.prog 39 #[.slice A n c] w fun e w' => e = .returned (.bool (fewB l)) ∧ w = w' := by
  unfold maxLen at hn hx
  have hl := h.len
  subst hl
  have HH := Lib.hid h
  have HX := Lib.hid hx
  by_cases h40 : 40 < l.length
  · have HF : Hid (fewB l = false) := by show _ = _; unfold fewB; rw [decide_eq_false (by omega)]; rfl
    have e1 : decide ((40 : Int) < (l.length : Int)) = true := decide_eq_true (by omega)
    clear h hx
    go_enter Try.func39, Try.ntmps39
    go_wp2_with fail
    go_ret
    exact ⟨by rw [HF.out]; rfl, rfl⟩
  have e1 : decide ((40 : Int) < (l.length : Int)) = false := decide_eq_false (by omega)
  clear h hx
  go_enter Try.func39, Try.ntmps39
  go_wp2_with fail
  go_loop [3] (fun i => ∃ k : Nat, k ≤ l.length ∧ i = .int .i64 k ∧ (l.take k).all (fun x => decide (x.tx.length ≤ 70000)) = true) (fun i => l.length - (intOf i).toNat)
  case atStart => exact ⟨0, by omega, rfl, by simp⟩
  case round =>
    obtain ⟨k, hk, rfl, hall⟩ := hrel
    have HAll := Lib.hid hall
    clear hall
    by_cases hlt : k < l.length
    · obtain ⟨b, off, x, rfl, hbl, hx, hc⟩ := HH.out.at_ hlt
      have d3 : w.cell? ⟨b, off + k * 4 + 3, none⟩ = some (.string (str x.tx)) := hc 3 _ rfl
      have hz : (str x.tx).size = x.tx.length := str_size _
      have hm := List.mem_of_getElem? hx
      have hx9 := HX.out x hm
      have HT := Lib.hid (take_snoc_some hx)
      clear hc hx
      by_cases hbig : 70000 < x.tx.length
      · have HF : Hid (fewB l = false) := by
          show _ = _
          unfold fewB
          rw [Bool.and_eq_false_iff]
          right
          rw [← Bool.not_eq_true]
          intro hall
          have := List.all_eq_true.1 hall x hm
          simp at this
          omega
        have e2 : decide ((70000 : Int) < ((str x.tx).size : Int)) = true := decide_eq_true (by omega)
        go_wp2_with fail
        go_ret
        exact ⟨by rw [HF.out]; rfl, rfl⟩
      · have e2 : decide ((70000 : Int) < ((str x.tx).size : Int)) = false := decide_eq_false (by omega)
        have e2' : decide ((70000 : Int) < (x.tx.length : Int)) = false := decide_eq_false (by omega)
        have e2'' : decide (70000 < x.tx.length) = false := decide_eq_false (by omega)
        have hle : x.tx.length ≤ 70000 := by omega
        have hle' : ¬ (70000 : Int) < (x.tx.length : Int) := by omega
        have HN : Hid ((l.take (k + 1)).all (fun x => decide (x.tx.length ≤ 70000)) = true) := by
          show _ = _
          rw [HT.out, List.all_append, HAll.out]
          simp
          omega
        clear hbig hm
        go_wp2_with fail
        exact ⟨⟨k + 1, by omega, by go_num, HN.out⟩, by simp [intOf]; omega⟩
    · obtain rfl : k = l.length := by omega
      have HF : Hid (fewB l = true) := by
        show _ = _
        unfold fewB
        have := HAll.out
        rw [List.take_length] at this
        rw [this, decide_eq_true (by omega)]
        rfl
      go_wp2_with fail
      go_ret
      exact ⟨by rw [HF.out]; rfl, rfl⟩
theorem fewB_of {l : List Acj} (h : fewB l = true) : l.length ≤ 40 ∧ ∀ x ∈ l, x.tx.length ≤ 70000 := by
  unfold fewB at h
  simp only [Bool.and_eq_true, decide_eq_true_eq, List.all_eq_true] at h
  exact h
theorem Good.arm {s : Stor.Sto} {H area next : Nat} {life st : Int} {im : List UInt8} {ev : List (List UInt8)} (h : Jrn.Good s H area next life st im ev) (a k : Int) (ha : a ≤ 9223372036854775807) : Jrn.Good (Stor.arm s a k).1 H area next life st im ev ∧ (Stor.arm s a k).1.wr = s.wr := by
  have hb : (Stor.arm s a k).1.bs = s.bs ∧ (Stor.arm s a k).1.off = s.off ∧ (Stor.arm s a k).1.wr = s.wr := by
    unfold Stor.arm
    repeat' split
    all_goals exact ⟨rfl, rfl, rfl⟩
  refine ⟨⟨⟨Stor.arm_ok h.sound.ok a k ha, by rw [hb.2.1]; exact h.sound.on, by rw [hb.1]; exact h.sound.inv, by rw [hb.1]; exact h.sound.fresh, h.sound.st1⟩, by rw [hb.1]; exact h.clean, by rw [hb.1]; exact h.small⟩, hb.2.2⟩
def fst5 : List UInt8 := [102, 105, 114, 115, 116]
/-- what the law's beginning makes: a store of so many blocks with a journal on it -/
def FmtOut (H g : Nat) (w0 : World) (w : World) (e : Ending) (w' : World) : Prop := ∃ jb nx st s, e = .returned (.tuple #[.pointer (some ⟨jb, 0, none⟩), .int .i64 0]) ∧ w0.heap.size ≤ jb ∧ Blk w' jb 64 (jC 0 1 0 ((nx : Nat) : Int) st g false) ∧ StorW.Is w' w0.heap.size g s ∧ Below w0.heap.size w w' ∧ Jrn.Good s H 0 nx 1 st fst5 [] ∧ st ≤ 21 ∧ s.wr ≤ 20 ∧ KeepJ w w'
theorem fmt_any (H n g : Nat) (w0 w : World) (hn : n = 2 * H) (h1 : 2 ≤ H) (hH : H ≤ 20) (hbw : w0.heap.size ≤ w.heap.size) (hi : StorW.Is w w0.heap.size g (Stor.new n)) :
    Calls Try.prog 36 #[.pointer (some ⟨g, 0, none⟩), .string ⟨#[102, 105, 114, 115, 116]⟩] w (FmtOut H g w0 w) := by
  have hnd : need fst5 = 1 := rfl
  have hl : (Stor.new n).bs.length = n := by simp [Stor.new]
  obtain ⟨f1, f2, f3, f4, f5⟩ := good_first (n := n) (H := H) (body := fst5) hn (by omega) (by omega) (by omega) (by omega)
  have hpp := put_framed (life := 1) (seq := 0) (body := fst5) (by omega) (by omega) (by omega) (by omega) (by omega)
  have hf : fitsE (need fst5) (((Stor.new n).bs.length / 2 : Nat) : Int) = 0 := by
    unfold fitsE
    rw [hl, if_neg (by omega), if_neg (by omega)]
  have := format_new w0.heap.size g (Stor.new n) 1 (str fst5) w hi hbw (Stor.new_ok n (by omega) (by omega)) rfl (by omega) (by rw [counts_new]) (by rw [counts_new]) (by show (0 : Int) < 900000; omega) (by rw [str_size]; show 5 ≤ 1000000; omega) (by rw [str_data]; omega) (by rw [str_data]; exact hf) (by rw [str_data, hl]; omega) (by omega) (by omega) (by rw [str_data]; exact f1)
  rw [str_data] at this
  refine this.mono ?_
  rintro e w' ⟨jb, rfl, hjb, hblk, his, hbel, hkj⟩
  exact ⟨jb, _, _, _, rfl, Nat.le_trans hbw hjb, hblk, his, hbel, f3, by omega, by omega, hkj⟩
theorem is_mono {w : World} {base base' g : Nat} {s : Stor.Sto} (h : StorW.Is w base g s) (hb : base' ≤ base) : StorW.Is w base' g s := by
  obtain ⟨hs, A, c, h⟩ := h
  refine ⟨hs, A, c, Nat.le_trans hb h.gb, h.blk, ⟨h.own.1, ?_⟩, h.len, h.nodup, fun i x b h1 h2 => ⟨Nat.le_trans hb (h.data i x b h1 h2).1, (h.data i x b h1 h2).2⟩⟩
  rcases h.own.2 with h2 | ⟨g', cap, cur, hv', hg', r⟩
  · exact .inl h2
  · exact .inr ⟨g', cap, cur, hv', by omega, r⟩
end Go.Proofs.Ytdhnegcblnpmfaa.JrnW
