/-
  Merged: A block that is torn is what it was, what was written, or none (plain).; What a journal's blocks are at all times, and behind a crash (plain).; What is found in a journal's blocks; what the laying of a frame leaves (plain).; The laying of a frame on a store (plain).; awake of layer 33.; The walk of StoreArmed: true for every argument.
-/
import Derived.Test.YtdhnegcblnpmfaaL6
import Derived.Test.YtdhnegcblnpmfaaL5
namespace Go.Proofs.Ytdhnegcblnpmfaa.Jrn
open Pack Frm
set_option linter.unusedVariables false
set_option linter.unusedSimpArgs false

def start4 (s : List UInt8) : List UInt8 := s.take 4
def end4 (s : List UInt8) : List UInt8 := (s.drop 252).take 4
theorem numAt_start {s : List UInt8} (h : s.length = 256) : numAt s 0 4 = (num (start4 s) : Int) := by
  unfold numAt
  rw [take4 (a := 0) (k := 0) rfl (by omega)]
  rfl
theorem numAt_end {s : List UInt8} (h : s.length = 256) : numAt s 252 4 = (num (end4 s) : Int) := by
  unfold numAt
  rw [take4 (a := 252) (k := 252) rfl (by omega)]
  rfl
theorem num_inj {p q : List UInt8} (hl : p.length = q.length) (h : num p = num q) : p = q := by
  rw [← be_num p, ← be_num q, hl, h]
theorem read_stamps {s : List UInt8} {b : Bk} (h : readB s = some b) : s.length = 256 ∧ b.stamp = numAt s 0 4 ∧ numAt s 252 4 = numAt s 0 4 ∧ b.id = numAt s 8 4 ∧ b.stamp ≠ 0 := by
  unfold readB at h
  split at h
  · next hh =>
    obtain ⟨h1, h2⟩ := hh
    injection h with h
    subst h
    simp only [readOk, Bool.and_eq_true, Bool.not_eq_true', beq_eq_false_iff_ne, bne_eq_false_iff_eq, decide_eq_false_iff_not] at h2
    exact ⟨h1, rfl, h2.1.1.2, rfl, h2.1.1.1⟩
  · cases h
def tear (k : Nat) (new old : List UInt8) : List UInt8 := new.take k ++ old.drop k
theorem tear_len {k : Nat} {new old : List UInt8} (h : new.length = 256) (h2 : old.length = 256) : (tear k new old).length = 256 := by
  simp [tear, h, h2]
  omega
theorem stamp_start {b : Bk} : start4 (writeB b) = be 4 b.stamp.toNat := by
  unfold start4 writeB
  rw [List.take_left' (be_length _ _)]
theorem writeB_split (b : Bk) : writeB b = (be 4 b.stamp.toNat ++ (be 1 b.part.toNat ++ (be 1 (if b.last then 1 else 0) ++ (be 2 b.bytes.length ++ (be 4 b.id.toNat ++ (b.bytes ++ List.replicate (240 - b.bytes.length) 0)))))) ++ be 4 b.stamp.toNat := by
  simp [writeB]
theorem stamp_end {b : Bk} (h : b.bytes.length ≤ 240) : end4 (writeB b) = be 4 b.stamp.toNat := by
  unfold end4
  rw [writeB_split, List.drop_left' (by simp [be_length]; omega), List.take_of_length_le (by simp [be_length])]
theorem writeB_ends {b : Bk} (h : b.Fine) : numAt (writeB b) 0 4 = b.stamp ∧ numAt (writeB b) 252 4 = b.stamp := by
  obtain ⟨s0, s1, p0, p1, i0, i1, few⟩ := h
  have hn : num (be 4 b.stamp.toNat) = b.stamp.toNat := num_be _ _ (by simp; omega)
  rw [numAt_start (writeB_len few), numAt_end (writeB_len few), stamp_start, stamp_end few, hn]
  omega
/-- a block that is torn is what it was, what was written, or cannot be read -/
theorem torn_read {b : Bk} {old : List UInt8} {k : Nat} (hf : b.Fine) (hold : old.length = 256) (hclean : numAt old 0 4 = numAt old 252 4) (hfresh : numAt old 252 4 < b.stamp) (hk : k ≤ 256) :
    tear k (writeB b) old = old ∨ tear k (writeB b) old = writeB b ∨ readB (tear k (writeB b) old) = none := by
  have few := hf.few
  have s0 := hf.s0
  have s1 := hf.s1
  have hwl := writeB_len few
  have htl : (tear k (writeB b) old).length = 256 := tear_len hwl hold
  cases hr : readB (tear k (writeB b) old) with
  | none => exact .inr (.inr rfl)
  | some x =>
    obtain ⟨_, _, hends, _, _⟩ := read_stamps hr
    rw [numAt_start htl, numAt_end htl] at hends
    rw [numAt_start hold, numAt_end hold] at hclean
    rw [numAt_end hold] at hfresh
    have hol : (end4 old).length = 4 := by simp [end4, hold]
    have hosl : (start4 old).length = 4 := by simp [start4, hold]
    have hn : num (be 4 b.stamp.toNat) = b.stamp.toNat := num_be _ _ (by simp; omega)
    have hneq : num (end4 old) ≠ num (be 4 b.stamp.toNat) := by omega
    by_cases k1 : k ≤ 252
    · have he : end4 (tear k (writeB b) old) = end4 old := by
        unfold end4 tear
        have hkl : ((writeB b).take k).length = k := by simp [hwl]; omega
        rw [List.drop_append, hkl, List.drop_eq_nil_of_le (by omega), List.nil_append, List.drop_drop, show k + (252 - k) = 252 by omega]
      rw [he] at hends
      by_cases k2 : k ≤ 4
      · have hs : start4 (tear k (writeB b) old) = start4 old := by
          refine num_inj (by simp [start4, htl, hold]) ?_
          omega
        left
        have h1 : (tear k (writeB b) old).drop 4 = old.drop 4 := by
          unfold tear
          have hkl : ((writeB b).take k).length = k := by simp [hwl]; omega
          rw [List.drop_append, hkl, List.drop_eq_nil_of_le (by omega), List.nil_append, List.drop_drop, show k + (4 - k) = 4 by omega]
        unfold start4 at hs
        rw [← List.take_append_drop 4 (tear k (writeB b) old), hs, h1, List.take_append_drop]
      · exfalso
        have hs : start4 (tear k (writeB b) old) = be 4 b.stamp.toNat := by
          rw [← stamp_start]
          unfold start4 tear
          rw [List.take_append_of_le_length (by simp [hwl]; omega), List.take_take, show min 4 k = 4 by omega]
        rw [hs] at hends
        exact hneq (by omega)
    · have hs : start4 (tear k (writeB b) old) = be 4 b.stamp.toNat := by
        rw [← stamp_start]
        unfold start4 tear
        rw [List.take_append_of_le_length (by simp [hwl]; omega), List.take_take, show min 4 k = 4 by omega]
      rw [hs] at hends
      have he : end4 (tear k (writeB b) old) = end4 (writeB b) := by
        rw [stamp_end few]
        refine num_inj (by simp [end4, htl, be_length]) (by omega)
      right; left
      have h1 : (tear k (writeB b) old).take 252 = (writeB b).take 252 := by
        unfold tear
        rw [List.take_append_of_le_length (by simp [hwl]; omega), List.take_take, show min 252 k = 252 by omega]
      have h2 : (tear k (writeB b) old).drop 252 = (writeB b).drop 252 := by
        unfold end4 at he
        rwa [List.take_of_length_le (by simp [htl]), List.take_of_length_le (by simp [hwl])] at he
      rw [← List.take_append_drop 252 (tear k (writeB b) old), h1, h2, List.take_append_drop]
end Go.Proofs.Ytdhnegcblnpmfaa.Jrn

namespace Go.Proofs.Ytdhnegcblnpmfaa.Jrn
open Pack Frm
set_option linter.unusedVariables false
set_option linter.unusedSimpArgs false

/-- records of one life, one behind the other -/
def Chain (l : List (List UInt8)) (e : Nat) (life : Int) : Nat → Nat → List (List UInt8) → Nat → Prop
  | a, _, [], next => a = next
  | a, seq, b :: r, next => ∃ t, takeR l a e = some ⟨life, seq, b, t⟩ ∧ Chain l e life t (seq + 1) r next
theorem Chain.le {l : List (List UInt8)} {e next : Nat} {life : Int} : ∀ {bs : List (List UInt8)} {a seq : Nat}, Chain l e life a seq bs next → a + bs.length ≤ next ∧ (bs ≠ [] → next ≤ e) := by
  intro bs
  induction bs with
  | nil => intro a seq h; simp only [Chain] at h; simp; omega
  | cons b r ih =>
    intro a seq h
    obtain ⟨t, h1, h2⟩ := h
    obtain ⟨g1, g2, _⟩ := take_local h1
    obtain ⟨k1, k2⟩ := ih h2
    simp only at g1 g2
    refine ⟨by simp; omega, fun _ => ?_⟩
    cases r with
    | nil => simp only [Chain] at h2; omega
    | cons c r => exact k2 (by simp)
theorem Chain.keep {l l' : List (List UInt8)} {e next : Nat} {life : Int} : ∀ {bs : List (List UInt8)} {a seq : Nat}, Chain l e life a seq bs next → (∀ q, a ≤ q → q < next → blk l' q = blk l q) → Chain l' e life a seq bs next := by
  intro bs
  induction bs with
  | nil => intro a seq h _; exact h
  | cons b r ih =>
    intro a seq h hq
    obtain ⟨t, h1, h2⟩ := h
    obtain ⟨g1, g2, g3⟩ := take_local h1
    have k1 := h2.le.1
    simp only at g1 g2 g3
    exact ⟨t, g3 l' fun q q1 q2 => hq q q1 (by omega), ih h2 fun q q1 q2 => hq q (by omega) q2⟩
theorem Chain.snoc {l : List (List UInt8)} {e next t : Nat} {life : Int} {x : List UInt8} : ∀ {bs : List (List UInt8)} {a seq : Nat}, Chain l e life a seq bs next → takeR l next e = some ⟨life, ((seq + bs.length : Nat) : Int), x, t⟩ → Chain l e life a seq (bs ++ [x]) t := by
  intro bs
  induction bs with
  | nil =>
    intro a seq h hx
    simp only [Chain] at h
    subst h
    exact ⟨t, by simpa using hx, rfl⟩
  | cons b r ih =>
    intro a seq h hx
    obtain ⟨u, h1, h2⟩ := h
    refine ⟨u, h1, ih h2 ?_⟩
    rw [hx]
    simp only [List.length_cons, Option.some.injEq, Rc.mk.injEq, true_and, and_true]
    omega
/-- a journal: its blocks, where it stands, its image, its events -/
structure Inv (bs : List (List UInt8)) (H : Nat) (area : Nat) (life : Int) (next : Nat) (im : List UInt8) (ev : List (List UInt8)) : Prop where
  even : bs.length = 2 * H
  ar : area < 2
  life1 : 1 ≤ life
  chain : Chain bs ((area + 1) * H) life (area * H) 0 (im :: ev) next
  live : ∀ p, area * H ≤ p → p < next → (∃ r, takeR bs p ((area + 1) * H) = some r ∧ r.behind ≤ next ∧ r.life = life) ∨ (∃ b, readB (blk bs p) = some b ∧ b.part ≠ 0)
  tail : ∀ p, next ≤ p → p < (area + 1) * H → ∀ r, takeR bs p ((area + 1) * H) = some r → r.life < life
  other : ∀ p, (1 - area) * H ≤ p → p < (1 - area + 1) * H → ∀ r, takeR bs p ((1 - area + 1) * H) = some r → r.life < life
  ids : ∀ p, p < 2 * H → ∀ b, readB (blk bs p) = some b → b.id ≤ b.stamp
/-- all stamps are below the next one -/
def Fresh (bs : List (List UInt8)) (st : Int) : Prop := ∀ p, p < bs.length → numAt (blk bs p) 0 4 < st ∧ numAt (blk bs p) 252 4 < st
/-- each block has two like stamps -/
def Clean (bs : List (List UInt8)) : Prop := ∀ p, p < bs.length → numAt (blk bs p) 0 4 = numAt (blk bs p) 252 4
/-- m parts of a record are laid, the next one may be torn -/
structure Part (bs bs' : List (List UInt8)) (a : Nat) (st : Int) (fr : List UInt8) (m : Nat) : Prop where
  le : m ≤ parts fr
  len : bs'.length = bs.length
  done : ∀ i, i < m → blk bs' (a + i) = writeB (pb st fr i)
  rest : ∀ p, p < a ∨ a + m ≤ p → blk bs' p = blk bs p ∨ (p = a + m ∧ m < parts fr ∧ readB (blk bs' p) = none)
section
variable {bs bs' : List (List UInt8)} {a e m : Nat} {st : Int} {fr : List UInt8}
theorem Part.ahead (h : Part bs bs' a st fr m) {p : Nat} (hp : p < a) : blk bs' p = blk bs p := by
  rcases h.rest p (.inl hp) with h | ⟨h1, _⟩
  · exact h
  · omega
theorem Part.behind (h : Part bs bs' a st fr m) {p : Nat} (hp : a + parts fr ≤ p) : blk bs' p = blk bs p := by
  have := h.le
  rcases h.rest p (.inr (by omega)) with h | ⟨h1, h2, _⟩
  · exact h
  · omega
/-- what is taken at a place from the record's beginning on: the record, nothing, or what stood there -/
theorem Part.take (h : Part bs bs' a st fr m) (h0 : 1 ≤ st) (h1 : st + 255 < 4294967296) (hk : parts fr ≤ 255) (hin : a + parts fr ≤ bs.length) (hf : Fresh bs st) (hids : ∀ p, p < bs.length → ∀ b, readB (blk bs p) = some b → b.id ≤ b.stamp) {p : Nat} (hp : a ≤ p) (hpk : ¬ (p = a ∧ m = parts fr ∧ 0 < m)) :
    takeR bs' p e = none ∨ takeR bs' p e = takeR bs p e := by
  have hle := h.le
  by_cases c1 : p < a + m
  · left
    have hd := h.done (p - a) (by omega)
    rw [show a + (p - a) = p by omega] at hd
    have hr := pb_read (st := st) (fr := fr) h0 h1 (i := p - a) (by omega)
    rw [← hd] at hr
    by_cases c2 : p = a
    · subst c2
      refine take_torn h0 h1 hk (by omega : m < parts fr) (by omega) h.done fun b hb => ?_
      rcases h.rest (p + m) (.inr (Nat.le_refl _)) with h2 | ⟨_, _, h2⟩
      · rw [h2] at hb
        obtain ⟨_, g1, _, _, _⟩ := read_stamps hb
        have := (hf (p + m) (by omega)).1
        have := hids (p + m) (by omega) b hb
        omega
      · rw [h2] at hb; cases hb
    · exact take_part hr (by simp [pb]; omega)
  · rcases h.rest p (.inr (by omega)) with h2 | ⟨_, _, h2⟩
    · right
      refine take_same fun q q1 q2 => ?_
      rcases h.rest q (.inr (by omega)) with h3 | ⟨h3, _, _⟩
      · exact h3
      · rw [show q = p by omega]; exact h2
    · left
      exact take_none h2
theorem Part.ids (h : Part bs bs' a st fr m) (h0 : 1 ≤ st) (h1 : st + 255 < 4294967296) (hk : parts fr ≤ 255) (hids : ∀ p, p < bs.length → ∀ b, readB (blk bs p) = some b → b.id ≤ b.stamp) : ∀ p, p < bs.length → ∀ b, readB (blk bs' p) = some b → b.id ≤ b.stamp := by
  intro p hp b hb
  have hle := h.le
  by_cases c : a ≤ p ∧ p < a + m
  · have hd := h.done (p - a) (by omega)
    rw [show a + (p - a) = p by omega] at hd
    rw [hd, pb_read h0 h1 (by omega)] at hb
    injection hb with hb
    subst hb
    simp [pb]
    omega
  · rcases h.rest p (by omega) with h2 | ⟨_, _, h2⟩
    · rw [h2] at hb; exact hids p hp b hb
    · rw [h2] at hb; cases hb
end
/-- a frame's own law: what it is read as -/
structure Framed (fr : List UInt8) (life seq : Int) (body : List UInt8) : Prop where
  got : get fr 0 = (life, seq, body, (fr.length : Int), 0)
  pos : 0 < fr.length
  few : parts fr ≤ 255
/-- an event is appended: whole, or not -/
theorem Inv.append {bs bs' : List (List UInt8)} {H area next m : Nat} {life st : Int} {im body fr : List UInt8} {ev : List (List UInt8)} (h : Inv bs H area life next im ev) (hf : Fresh bs st) (h0 : 1 ≤ st) (h1 : st + 255 < 4294967296)
    (hfr : Framed fr life ((ev.length + 1 : Nat) : Int) body) (hin : next + parts fr ≤ (area + 1) * H) (hp : Part bs bs' next st fr m) :
    (m = parts fr → Inv bs' H area life (next + parts fr) im (ev ++ [body])) ∧ (m ≠ parts fr → Inv bs' H area life next im ev) := by
  have hk := hfr.few
  have hpos : 0 < parts fr := by have := hfr.pos; unfold parts; omega
  have hle := hp.le
  have ha := h.ar
  have hE := h.even
  have h2H : (area + 1) * H ≤ 2 * H := Nat.mul_le_mul_right _ (by omega)
  obtain ⟨cl, cle⟩ := h.chain.le
  simp only [List.length_cons] at cl
  have hids : ∀ p, p < bs.length → ∀ b, readB (blk bs p) = some b → b.id ≤ b.stamp := fun p hp b hb => h.ids p (by omega) b hb
  have hstart : area * H ≤ next := by omega
  have hlive0 : ∀ p, area * H ≤ p → p < next → (∃ r, takeR bs' p ((area + 1) * H) = some r ∧ r.behind ≤ next ∧ r.life = life) ∨ (∃ b, readB (blk bs' p) = some b ∧ b.part ≠ 0) := by
    intro p p1 p2
    rcases h.live p p1 p2 with ⟨r, r1, r2, r3⟩ | ⟨b, b1, b2⟩
    · exact .inl ⟨r, (take_local r1).2.2 bs' (fun q q1 q2 => hp.ahead (by omega)), r2, r3⟩
    · exact .inr ⟨b, by rw [hp.ahead p2]; exact b1, b2⟩
  have hother : ∀ p, (1 - area) * H ≤ p → p < (1 - area + 1) * H → ∀ r, takeR bs' p ((1 - area + 1) * H) = some r → r.life < life := by
    intro p p1 p2 r hr
    rw [take_same (l := bs)] at hr
    · exact h.other p p1 p2 r hr
    · intro q q1 q2
      rcases Nat.lt_or_ge area 1 with c | c
      · obtain rfl : area = 0 := by omega
        exact hp.behind (by simp at p1 q1 hin ⊢; omega)
      · obtain rfl : area = 1 := by omega
        exact hp.ahead (by simp at q2 hstart ⊢; omega)
  have hids' : ∀ p, p < 2 * H → ∀ b, readB (blk bs' p) = some b → b.id ≤ b.stamp := fun p hp' b hb => hp.ids h0 h1 hk hids p (by omega) b hb
  have hchain0 : Chain bs' ((area + 1) * H) life (area * H) 0 (im :: ev) next := h.chain.keep fun q q1 q2 => hp.ahead q2
  refine ⟨fun hm => ?_, fun hm => ?_⟩
  · have hw := take_whole (l := bs') (e := (area + 1) * H) h0 h1 hk hfr.pos hin (fun i hi => hp.done i (by omega)) hfr.got
    refine ⟨by rw [hp.len]; exact hE, ha, h.life1, ?_, ?_, ?_, hother, hids'⟩
    · exact hchain0.snoc (by rw [hw]; simp)
    · intro p p1 p2
      by_cases c : p < next
      · rcases hlive0 p p1 c with ⟨r, r1, r2, r3⟩ | hb
        · exact .inl ⟨r, r1, by omega, r3⟩
        · exact .inr hb
      · by_cases c2 : p = next
        · subst c2
          exact .inl ⟨_, hw, Nat.le_refl _, rfl⟩
        · right
          have hd := hp.done (p - next) (by omega)
          rw [show next + (p - next) = p by omega] at hd
          exact ⟨_, by rw [hd]; exact pb_read h0 h1 (by omega), by simp [pb]; omega⟩
    · intro p p1 p2 r hr
      rcases hp.take (e := (area + 1) * H) h0 h1 hk (by omega) hf hids (p := p) (by omega) (by omega) with c | c
      · rw [c] at hr; cases hr
      · rw [c] at hr
        exact h.tail p (by omega) p2 r hr
  · refine ⟨by rw [hp.len]; exact hE, ha, h.life1, hchain0, hlive0, ?_, hother, hids'⟩
    intro p p1 p2 r hr
    rcases hp.take (e := (area + 1) * H) h0 h1 hk (by omega) hf hids (p := p) (by omega) (by omega) with c | c
    · rw [c] at hr; cases hr
    · rw [c] at hr
      exact h.tail p p1 p2 r hr
/-- a journal is turned: whole, or not -/
theorem Inv.turn {bs bs' : List (List UInt8)} {H area next m : Nat} {life st : Int} {im body fr : List UInt8} {ev : List (List UInt8)} (h : Inv bs H area life next im ev) (hf : Fresh bs st) (h0 : 1 ≤ st) (h1 : st + 255 < 4294967296)
    (hfr : Framed fr (life + 1) 0 body) (hin : parts fr ≤ H) (hp : Part bs bs' ((1 - area) * H) st fr m) :
    (m = parts fr → Inv bs' H (1 - area) (life + 1) ((1 - area) * H + parts fr) body []) ∧ (m ≠ parts fr → Inv bs' H area life next im ev) := by
  have hk := hfr.few
  have hpos : 0 < parts fr := by have := hfr.pos; unfold parts; omega
  have hle := hp.le
  have ha := h.ar
  have hE := h.even
  have e1 : (1 - area + 1) * H = (1 - area) * H + H := by rw [Nat.add_mul, Nat.one_mul]
  have e2 : (area + 1) * H = area * H + H := by rw [Nat.add_mul, Nat.one_mul]
  have e3 : area * H + (1 - area) * H = H := by rw [← Nat.add_mul, show area + (1 - area) = 1 by omega, Nat.one_mul]
  have e4 : area * H = 0 ∨ (1 - area) * H = 0 := by rcases Nat.lt_or_ge area 1 with c | c; · left; rw [show area = 0 by omega, Nat.zero_mul]
                                                    · right; rw [show 1 - area = 0 by omega, Nat.zero_mul]
  have hHn : (1 - (1 - area)) = area := by omega
  obtain ⟨cl, cle⟩ := h.chain.le
  have cle := cle (by simp)
  simp only [List.length_cons] at cl
  have hids : ∀ p, p < bs.length → ∀ b, readB (blk bs p) = some b → b.id ≤ b.stamp := fun p hp b hb => h.ids p (by omega) b hb
  have hout : ∀ q, area * H ≤ q → q < (area + 1) * H → blk bs' q = blk bs q := by
    intro q q1 q2
    rcases e4 with c | c
    · exact hp.ahead (by omega)
    · exact hp.behind (by omega)
  have hids' : ∀ p, p < 2 * H → ∀ b, readB (blk bs' p) = some b → b.id ≤ b.stamp := fun p hp' b hb => hp.ids h0 h1 hk hids p (by omega) b hb
  have hlive0 : ∀ p, area * H ≤ p → p < next → (∃ r, takeR bs' p ((area + 1) * H) = some r ∧ r.behind ≤ next ∧ r.life = life) ∨ (∃ b, readB (blk bs' p) = some b ∧ b.part ≠ 0) := by
    intro p p1 p2
    rcases h.live p p1 p2 with ⟨r, r1, r2, r3⟩ | ⟨b, b1, b2⟩
    · exact .inl ⟨r, (take_local r1).2.2 bs' (fun q q1 q2 => hout q (by omega) (by omega)), r2, r3⟩
    · exact .inr ⟨b, by rw [hout p p1 (by omega)]; exact b1, b2⟩
  have htail0 : ∀ p, next ≤ p → p < (area + 1) * H → ∀ r, takeR bs' p ((area + 1) * H) = some r → r.life < life := by
    intro p p1 p2 r hr
    rw [take_same (l := bs) (fun q q1 q2 => hout q (by omega) q2)] at hr
    exact h.tail p p1 p2 r hr
  have hchain0 : Chain bs' ((area + 1) * H) life (area * H) 0 (im :: ev) next := h.chain.keep fun q q1 q2 => hout q q1 (by omega)
  refine ⟨fun hm => ?_, fun hm => ?_⟩
  · have hw := take_whole (l := bs') (a := (1 - area) * H) (e := (1 - area + 1) * H) h0 h1 hk hfr.pos (by omega) (fun i hi => hp.done i (by omega)) hfr.got
    refine ⟨by rw [hp.len]; exact hE, by omega, by have := h.life1; omega, ?_, ?_, ?_, ?_, hids'⟩
    · exact ⟨_, hw, rfl⟩
    · intro p p1 p2
      by_cases c2 : p = (1 - area) * H
      · rw [c2]
        exact .inl ⟨_, hw, Nat.le_refl _, rfl⟩
      · right
        have hd := hp.done (p - (1 - area) * H) (by omega)
        rw [show (1 - area) * H + (p - (1 - area) * H) = p by omega] at hd
        exact ⟨_, by rw [hd]; exact pb_read h0 h1 (by omega), by simp [pb]; omega⟩
    · intro p p1 p2 r hr
      rcases hp.take (e := (1 - area + 1) * H) h0 h1 hk (by omega) hf hids (p := p) (by omega) (by omega) with c | c
      · rw [c] at hr; cases hr
      · rw [c] at hr
        have := h.other p (by omega) p2 r hr
        omega
    · rw [hHn]
      intro p p1 p2 r hr
      by_cases c : p < next
      · rcases hlive0 p p1 c with ⟨r', r1, r2, r3⟩ | ⟨b, b1, b2⟩
        · rw [r1] at hr
          injection hr with hr
          subst hr
          omega
        · rw [take_part b1 b2] at hr; cases hr
      · have := htail0 p (by omega) p2 r hr
        omega
  · refine ⟨by rw [hp.len]; exact hE, ha, h.life1, hchain0, hlive0, htail0, ?_, hids'⟩
    intro p p1 p2 r hr
    rcases hp.take (e := (1 - area + 1) * H) h0 h1 hk (by omega) hf hids (p := p) (by omega) (by omega) with c | c
    · rw [c] at hr; cases hr
    · rw [c] at hr
      exact h.other p p1 p2 r hr
/-- a journal is begun on blocks on which nothing stands -/
theorem Inv.first {bs bs' : List (List UInt8)} {H : Nat} {st life : Int} {body fr : List UInt8} (hE : bs.length = 2 * H) (hno : ∀ p, readB (blk bs p) = none) (hf : Fresh bs st) (h0 : 1 ≤ st) (h1 : st + 255 < 4294967296) (hl : 1 ≤ life)
    (hfr : Framed fr life 0 body) (hin : parts fr ≤ H) (hp : Part bs bs' 0 st fr (parts fr)) : Inv bs' H 0 life (parts fr) body [] := by
  have hk := hfr.few
  have hpos : 0 < parts fr := by have := hfr.pos; unfold parts; omega
  have hids : ∀ p, p < bs.length → ∀ b, readB (blk bs p) = some b → b.id ≤ b.stamp := fun p hp b hb => by rw [hno] at hb; cases hb
  have hw := take_whole (l := bs') (a := 0) (e := (0 + 1) * H) h0 h1 hk hfr.pos (by omega) (fun i hi => hp.done i (by omega)) hfr.got
  rw [Nat.zero_add (parts fr)] at hw
  have hno2 : ∀ p e, ¬ p = 0 → takeR bs' p e = none := by
    intro p e hp0
    rcases hp.take (e := e) h0 h1 hk (by omega) hf hids (p := p) (by omega) (by omega) with c | c
    · exact c
    · rw [c]; exact take_none (hno p)
  refine ⟨by rw [hp.len]; exact hE, by omega, hl, ⟨_, by simpa using hw, rfl⟩, ?_, ?_, ?_, fun p hp' b hb => hp.ids h0 h1 hk hids p (by omega) b hb⟩
  · intro p p1 p2
    by_cases c2 : p = 0
    · subst c2
      exact .inl ⟨_, hw, Nat.le_refl _, rfl⟩
    · right
      have hd := hp.done p (by omega)
      rw [Nat.zero_add] at hd
      exact ⟨_, by rw [hd]; exact pb_read h0 h1 (by omega), by simp [pb]; omega⟩
  · intro p p1 p2 r hr
    rw [hno2 p _ (by omega)] at hr; cases hr
  · intro p p1 p2 r hr
    rw [hno2 p _ (by omega)] at hr; cases hr
end Go.Proofs.Ytdhnegcblnpmfaa.Jrn

namespace Go.Proofs.Ytdhnegcblnpmfaa.Jrn
open Pack Frm Stor
set_option linter.unusedVariables false
set_option linter.unusedSimpArgs false

theorem chain_recs {l : List (List UInt8)} {e next : Nat} {life : Int} (hstop : ∀ r, takeR l next e = some r → r.life ≠ life) : ∀ {bs : List (List UInt8)} {a seq f : Nat} {life' : Int}, Chain l e life a seq bs next → bs.length < f → (seq ≠ 0 → life' = life) → (seq = 0 → bs ≠ []) →
    (recsF l e f a seq life').map (·.body) = bs ∧ (∀ r ∈ recsF l e f a seq life', r.life = life) ∧ (((recsF l e f a seq life').getLast?.map (·.behind)).getD a) = next := by
  intro bs
  induction bs with
  | nil =>
    intro a seq f life' h hf hs h0
    simp only [Chain] at h
    subst h
    have hseq : seq ≠ 0 := fun h => h0 h rfl
    have hlife := hs hseq
    subst hlife
    obtain ⟨f, rfl⟩ : ∃ g, f = g + 1 := ⟨f - 1, by simp at hf; omega⟩
    have hn : recsF l e (f + 1) a seq life' = [] := by
      rw [recsF]
      cases ht : takeR l a e with
      | none => rfl
      | some r =>
        have := hstop r ht
        simp only
        rw [if_neg]
        rw [if_neg hseq]
        exact fun h => this h.2
    rw [hn]
    simp
  | cons b r ih =>
    intro a seq f life' h hf hs h0
    obtain ⟨t, h1, h2⟩ := h
    obtain ⟨f, rfl⟩ : ∃ g, f = g + 1 := ⟨f - 1, by simp at hf; omega⟩
    have e1 : (if seq = 0 then life else life') = life := by
      split
      · rfl
      · next h => exact hs h
    have hn : recsF l e (f + 1) a seq life' = ⟨life, seq, b, t⟩ :: recsF l e f t (seq + 1) life := by
      rw [recsF, h1]
      simp only
      rw [if_pos (by rw [e1]; simp), e1]
    obtain ⟨k1, k2, k3⟩ := ih (f := f) (life' := life) h2 (by simp at hf; omega) (fun _ => rfl) (by omega)
    rw [hn]
    refine ⟨by simp [k1], ?_, ?_⟩
    · intro r hr
      rcases List.mem_cons.1 hr with h | h
      · rw [h]
      · exact k2 r h
    · rw [List.getLast?_cons]
      cases hl : (recsF l e f t (seq + 1) life).getLast? with
      | none => rw [hl] at k3; simp at k3 ⊢; exact k3
      | some x => rw [hl] at k3; simp at k3 ⊢; exact k3
theorem half_of {bs : List (List UInt8)} {H : Nat} (h : bs.length = 2 * H) : bs.length / 2 = H := by omega
theorem Inv.look {bs : List (List UInt8)} {H area next : Nat} {life : Int} {im : List UInt8} {ev : List (List UInt8)} (h : Inv bs H area life next im ev) : look bs area = ⟨area, life, ev.length, next, 0, im, ev, true⟩ := by
  have ha := h.ar
  have h2H : (area + 1) * H ≤ 2 * H := Nat.mul_le_mul_right _ (by omega)
  obtain ⟨cl, cle⟩ := h.chain.le
  have cle := cle (by simp)
  simp only [List.length_cons] at cl
  have hE := h.even
  have hstop : ∀ r, takeR bs next ((area + 1) * H) = some r → r.life ≠ life := by
    intro r hr
    obtain ⟨g1, g2, _⟩ := take_local hr
    have := h.tail next (Nat.le_refl _) (by omega) r hr
    omega
  obtain ⟨k1, k2, k3⟩ := chain_recs hstop (f := bs.length + 1) (life' := 0) h.chain (by simp; omega) (by simp) (by simp)
  have hr : recs bs area = recsF bs ((area + 1) * H) (bs.length + 1) (area * H) 0 0 := by rw [recs, half_of hE]
  unfold Jrn.look
  rw [hr]
  cases hc : recsF bs ((area + 1) * H) (bs.length + 1) (area * H) 0 0 with
  | nil => rw [hc] at k1; simp at k1
  | cons r t =>
    rw [hc] at k1 k2 k3
    simp only [List.map_cons, List.cons.injEq] at k1
    simp only
    have e1 := k2 r (by simp)
    have e2 : (((r :: t).getLast?.map (·.behind)).getD 0) = next := by
      rw [← k3, List.getLast?_cons]
      simp
    rw [e1, k1.1, e2, ← k1.2]
    simp
theorem Inv.looko {bs : List (List UInt8)} {H area next : Nat} {life : Int} {im : List UInt8} {ev : List (List UInt8)} (h : Inv bs H area life next im ev) : (Jrn.look bs (1 - area)).stands = true → (Jrn.look bs (1 - area)).life < life := by
  intro hs
  have hr : recs bs (1 - area) = recsF bs ((1 - area + 1) * H) (bs.length + 1) ((1 - area) * H) 0 0 := by rw [recs, half_of h.even]
  unfold Jrn.look at hs ⊢
  rw [hr] at hs ⊢
  rw [recsF] at hs ⊢
  cases ht : takeR bs ((1 - area) * H) ((1 - area + 1) * H) with
  | none => rw [ht] at hs; cases hs
  | some r =>
    obtain ⟨g1, g2, _⟩ := take_local ht
    have hl := h.other _ (Nat.le_refl _) (by omega) r ht
    rw [ht] at hs
    simp only [if_true, and_true] at hs ⊢
    by_cases c : r.seq = ((0 : Nat) : Int)
    · rw [if_pos c]
      exact hl
    · rw [if_neg c] at hs
      cases hs
theorem Inv.counts {bs : List (List UInt8)} {H area next : Nat} {life : Int} {im : List UInt8} {ev : List (List UInt8)} (h : Inv bs H area life next im ev) : counts bs = ⟨area, life, ev.length, next, stamped bs, im, ev, true⟩ := by
  have hl := h.look
  have ho := h.looko
  have ha := h.ar
  unfold Jrn.counts
  rcases Nat.lt_or_ge area 1 with c | c
  · obtain rfl : area = 0 := by omega
    simp only
    rw [hl]
    simp only
    rw [if_neg]
    rintro (h1 | ⟨h1, h2⟩)
    · cases h1
    · have := ho h1
      simp only [Nat.sub_zero] at this
      omega
  · obtain rfl : area = 1 := by omega
    simp only
    rw [hl]
    simp only
    simp only [Nat.sub_self] at ho
    rw [if_pos]
    cases hs : (Jrn.look bs 0).stands with
    | false => exact .inl rfl
    | true => exact .inr ⟨trivial, ho hs⟩
theorem foldl_ge (l : List (List UInt8)) : ∀ n : Int, n ≤ l.foldl (fun n s => max n (max (numAt s 0 4) (numAt s ((s.length : Int) - 4) 4))) n ∧ ∀ s ∈ l, numAt s 0 4 ≤ l.foldl (fun n s => max n (max (numAt s 0 4) (numAt s ((s.length : Int) - 4) 4))) n ∧ numAt s ((s.length : Int) - 4) 4 ≤ l.foldl (fun n s => max n (max (numAt s 0 4) (numAt s ((s.length : Int) - 4) 4))) n := by
  induction l with
  | nil => intro n; simp
  | cons x r ih =>
    intro n
    simp only [List.foldl_cons]
    obtain ⟨h1, h2⟩ := ih (max n (max (numAt x 0 4) (numAt x ((x.length : Int) - 4) 4)))
    refine ⟨by omega, fun s hs => ?_⟩
    rcases List.mem_cons.1 hs with rfl | hs
    · omega
    · exact h2 s hs
theorem foldl_le (l : List (List UInt8)) (m : Int) (h : ∀ s ∈ l, numAt s 0 4 ≤ m ∧ numAt s ((s.length : Int) - 4) 4 ≤ m) : ∀ n : Int, n ≤ m → l.foldl (fun n s => max n (max (numAt s 0 4) (numAt s ((s.length : Int) - 4) 4))) n ≤ m := by
  induction l with
  | nil => intro n hn; exact hn
  | cons x r ih =>
    intro n hn
    simp only [List.foldl_cons]
    have := h x (by simp)
    exact ih (fun s hs => h s (by simp [hs])) _ (by omega)
theorem blk_mem {bs : List (List UInt8)} {p : Nat} (hp : p < bs.length) : blk bs p ∈ bs := by
  rw [blk, List.getD_eq_getElem?_getD, List.getElem?_eq_getElem hp]
  exact List.getElem_mem _
theorem stamped_fresh {bs : List (List UInt8)} (hw : ∀ b ∈ bs, b.length = 256) : Fresh bs (stamped bs) ∧ 1 ≤ stamped bs := by
  obtain ⟨h1, h2⟩ := foldl_ge bs 0
  refine ⟨fun p hp => ?_, ?_⟩
  · obtain ⟨k1, k2⟩ := h2 _ (blk_mem hp)
    rw [hw _ (blk_mem hp)] at k2
    unfold stamped
    constructor
    · omega
    · have : numAt (blk bs p) 252 4 = numAt (blk bs p) (((256 : Nat) : Int) - 4) 4 := rfl
      omega
  · unfold stamped
    omega
/-- stamps that are small: their highest two bytes are zero -/
def Small (s : List UInt8) : Prop := s[0]? = some 0 ∧ s[1]? = some 0 ∧ s[252]? = some 0 ∧ s[253]? = some 0
theorem num_small {q : List UInt8} (hl : q.length = 4) (h0 : q[0]? = some 0) (h1 : q[1]? = some 0) : num q < 65536 := by
  match q, hl with
  | [a, b, c, d], _ =>
    simp at h0 h1
    subst h0 h1
    simp only [num, List.length_cons, List.length_nil]
    have h2 := c.toNat_lt
    have h3 := d.toNat_lt
    simp
    omega
theorem Small.bd {s : List UInt8} (h : Small s) (hl : s.length = 256) : numAt s 0 4 < 65536 ∧ numAt s 252 4 < 65536 := by
  obtain ⟨h0, h1, h2, h3⟩ := h
  rw [numAt_start hl, numAt_end hl]
  have k1 : num (start4 s) < 65536 := num_small (by simp [start4, hl]) (by rw [start4, List.getElem?_take_of_lt (by omega)]; exact h0) (by rw [start4, List.getElem?_take_of_lt (by omega)]; exact h1)
  have k2 : num (end4 s) < 65536 := num_small (by simp [end4, hl]) (by rw [end4, List.getElem?_take_of_lt (by omega), List.getElem?_drop]; exact h2) (by rw [end4, List.getElem?_take_of_lt (by omega), List.getElem?_drop]; exact h3)
  omega
theorem be4_small {n : Nat} (h : n < 65536) : (be 4 n)[0]? = some 0 ∧ (be 4 n)[1]? = some 0 := by
  have e1 : n / 256 ^ 3 = 0 := by omega
  have e2 : n / 256 ^ 2 = 0 := by omega
  rw [be_cons 3 n, be_cons 2 n, e1, e2]
  simp
theorem writeB_small {b : Bk} (hf : b.bytes.length ≤ 240) (h : b.stamp < 65536) : Small (writeB b) := by
  obtain ⟨k1, k2⟩ := be4_small (n := b.stamp.toNat) (by omega)
  have hl : (be 4 b.stamp.toNat).length = 4 := be_length _ _
  refine ⟨?_, ?_, ?_, ?_⟩
  · unfold writeB; rw [List.getElem?_append_left (by omega)]; exact k1
  · unfold writeB; rw [List.getElem?_append_left (by omega)]; exact k2
  · have hp : ∀ i, i < 4 → (writeB b)[252 + i]? = (be 4 b.stamp.toNat)[i]? := by
      intro i hi
      rw [writeB_split, List.getElem?_append_right (by simp [be_length]; omega)]
      congr 1
      simp [be_length]
      omega
    exact (hp 0 (by omega)).trans k1
  · have hp : ∀ i, i < 4 → (writeB b)[252 + i]? = (be 4 b.stamp.toNat)[i]? := by
      intro i hi
      rw [writeB_split, List.getElem?_append_right (by simp [be_length]; omega)]
      congr 1
      simp [be_length]
      omega
    exact (hp 1 (by omega)).trans k2
theorem tear_small {k : Nat} {new old : List UInt8} (hn : new.length = 256) (ho : old.length = 256) (h : Small new) (h2 : Small old) : Small (tear k new old) := by
  have key : ∀ i, i < 256 → new[i]? = some 0 → old[i]? = some 0 → (tear k new old)[i]? = some 0 := by
    intro i hi h1 h2
    unfold tear
    by_cases c : i < k
    · rw [List.getElem?_append_left (by simp [hn]; omega), List.getElem?_take_of_lt c]; exact h1
    · rw [List.getElem?_append_right (by simp [hn]; omega), List.getElem?_drop]
      rw [← h2]
      congr 1
      simp [hn]
      omega
  obtain ⟨a0, a1, a2, a3⟩ := h
  obtain ⟨b0, b1, b2, b3⟩ := h2
  exact ⟨key 0 (by omega) a0 b0, key 1 (by omega) a1 b1, key 252 (by omega) a2 b2, key 253 (by omega) a3 b3⟩
theorem stamped_small {bs : List (List UInt8)} (hw : ∀ b ∈ bs, b.length = 256) (h : ∀ b ∈ bs, Small b) : stamped bs ≤ 65536 := by
  unfold stamped
  have := foldl_le bs 65535 (fun s hs => by
    obtain ⟨h1, h2⟩ := (h s hs).bd (hw s hs)
    rw [hw s hs]
    constructor
    · omega
    · have : numAt s 252 4 = numAt s (((256 : Nat) : Int) - 4) 4 := rfl
      omega) 0 (by omega)
  omega
end Go.Proofs.Ytdhnegcblnpmfaa.Jrn

namespace Go.Proofs.Ytdhnegcblnpmfaa.Jrn
open Pack Frm Stor
set_option linter.unusedVariables false
set_option linter.unusedSimpArgs false

/-- the store, and the last error, behind so many parts at most -/
def layS (s : Sto) (a : Nat) (st : Int) (fr : List UInt8) : Nat → Sto × Int
  | 0 => (s, 0)
  | i + 1 => if (layS s a st fr i).2 ≠ 0 then layS s a st fr i else write (layS s a st fr i).1 ((a + i : Nat) : Int) (writeB (pb st fr i))
theorem layS_stop {s : Sto} {a : Nat} {st : Int} {fr : List UInt8} {i : Nat} (h : (layS s a st fr i).2 ≠ 0) : ∀ d, layS s a st fr (i + d) = layS s a st fr i := by
  intro d
  induction d with
  | zero => rfl
  | succ d ih => rw [show i + (d + 1) = (i + d) + 1 by omega, layS, ih, if_pos h]
theorem layS_next {s : Sto} {a : Nat} {st : Int} {fr : List UInt8} {i : Nat} (h : (layS s a st fr i).2 = 0) : layS s a st fr (i + 1) = write (layS s a st fr i).1 ((a + i : Nat) : Int) (writeB (pb st fr i)) := by rw [layS, if_neg (by simp [h])]
theorem layS_len (s : Sto) (a : Nat) (st : Int) (fr : List UInt8) : ∀ i, (layS s a st fr i).1.bs.length = s.bs.length := by
  intro i
  induction i with
  | zero => rfl
  | succ i ih =>
    rw [layS]
    split
    · exact ih
    · rw [write_len, ih]
theorem layS_ok {s : Sto} (a : Nat) (st : Int) (fr : List UInt8) (h : s.Ok) : ∀ i, (layS s a st fr i).1.Ok := by
  intro i
  induction i with
  | zero => exact h
  | succ i ih =>
    rw [layS]
    split
    · exact ih
    · exact write_ok ih _ _
theorem layS_wr (s : Sto) (a : Nat) (st : Int) (fr : List UInt8) : ∀ i : Nat, s.wr ≤ (layS s a st fr i).1.wr ∧ (layS s a st fr i).1.wr ≤ s.wr + i := by
  intro i
  induction i with
  | zero => simp [layS]
  | succ i ih =>
    rw [layS]
    split
    · omega
    · have := write_wr (layS s a st fr i).1 ((a + i : Nat) : Int) (writeB (pb st fr i))
      omega
theorem getD_set (l : List (List UInt8)) (p q : Nat) (x : List UInt8) : blk (l.set p x) q = if p = q ∧ p < l.length then x else blk l q := by
  unfold blk
  rw [List.getD_eq_getElem?_getD, List.getD_eq_getElem?_getD, List.getElem?_set]
  by_cases h : p = q
  · subst h
    by_cases h2 : p < l.length
    · simp [h2]
    · simp [h2]
  · simp [h]
/-- the store behind i parts that were done, or behind m ones and one that was torn -/
theorem layS_runs {s : Sto} {a : Nat} {st : Int} {fr : List UInt8} (hok : s.Ok) (hoff : s.off = false) : ∀ i, a + i ≤ s.bs.length →
    ((layS s a st fr i).2 = 0 ∧ (layS s a st fr i).1.off = false ∧ (∀ j, j < i → blk (layS s a st fr i).1.bs (a + j) = writeB (pb st fr j)) ∧ ∀ p, p < a ∨ a + i ≤ p → blk (layS s a st fr i).1.bs p = blk s.bs p) ∨
    ((layS s a st fr i).2 = 330 ∧ ∃ m k, m < i ∧ k ≤ 256 ∧ (∀ j, j < m → blk (layS s a st fr i).1.bs (a + j) = writeB (pb st fr j)) ∧ blk (layS s a st fr i).1.bs (a + m) = tear k (writeB (pb st fr m)) (blk s.bs (a + m)) ∧ ∀ p, p < a ∨ a + m < p → blk (layS s a st fr i).1.bs p = blk s.bs p) := by
  intro i
  induction i with
  | zero => intro _; exact .inl ⟨rfl, hoff, fun j hj => by omega, fun p _ => rfl⟩
  | succ i ih =>
    intro hin
    rcases ih (by omega) with ⟨h1, h2, h3, h4⟩ | ⟨h1, m, k, hm, hk, h3, h5, h4⟩
    · rw [layS_next h1]
      have hlen := layS_len s a st fr i
      have hok' := layS_ok a st fr hok i
      obtain ⟨t, ht⟩ : ∃ t, t = (layS s a st fr i).1 := ⟨_, rfl⟩
      rw [← ht] at h2 h3 h4 hlen hok' ⊢
      have hr : reach t ((a + i : Nat) : Int) = 0 := by
        unfold reach
        rw [if_neg (by simp [h2]), if_neg (by omega)]
      have hwl : (writeB (pb st fr i)).length = 256 := writeB_len (by simp [pb]; omega)
      have h4i := h4 (a + i) (.inr (Nat.le_refl _))
      unfold write
      rw [if_neg (by rw [hr]; simp), if_neg (by simp [hwl])]
      split
      · right
        refine ⟨rfl, i, t.keep.toNat, by omega, by have := hok'.k1; omega, fun j hj => ?_, ?_, fun p hp => ?_⟩
        · simp only [Int.toNat_natCast]
          rw [getD_set, if_neg (by omega)]
          exact h3 j hj
        · simp only [Int.toNat_natCast]
          rw [getD_set, if_pos ⟨rfl, by omega⟩]
          unfold blk at h4i
          rw [h4i]
          rfl
        · simp only [Int.toNat_natCast]
          rw [getD_set, if_neg (by omega)]
          exact h4 p (by omega)
      · left
        refine ⟨rfl, h2, fun j hj => ?_, fun p hp => ?_⟩
        · simp only [Int.toNat_natCast]
          by_cases c : j = i
          · subst c
            rw [getD_set, if_pos ⟨rfl, by omega⟩]
          · rw [getD_set, if_neg (by omega)]
            exact h3 j (by omega)
        · simp only [Int.toNat_natCast]
          rw [getD_set, if_neg (by omega)]
          exact h4 p (by omega)
    · right
      have h10 : (layS s a st fr i).2 ≠ 0 := by omega
      rw [layS, if_pos h10]
      exact ⟨h1, m, k, by omega, hk, h3, h5, h4⟩
theorem mem_blk {bs : List (List UInt8)} {b : List UInt8} (h : b ∈ bs) : ∃ p, p < bs.length ∧ blk bs p = b := by
  obtain ⟨p, hp, he⟩ := List.getElem_of_mem h
  exact ⟨p, hp, by rw [blk, List.getD_eq_getElem?_getD, List.getElem?_eq_getElem hp]; exact he⟩
/-- what a laying leaves: the record whole, or a part of it -/
theorem lay_part {s : Sto} {a : Nat} {st : Int} {fr : List UInt8} (hok : s.Ok) (hoff : s.off = false) (hin : a + parts fr ≤ s.bs.length) (hk : parts fr ≤ 255) (hc : Clean s.bs) (hf : Fresh s.bs st) (hs : ∀ b ∈ s.bs, Small b) (h0 : 1 ≤ st) (h1 : st + 255 ≤ 65536) :
    (∀ b ∈ (layS s a st fr (parts fr)).1.bs, Small b) ∧
    (((layS s a st fr (parts fr)).2 = 0 ∧ (layS s a st fr (parts fr)).1.off = false ∧ Part s.bs (layS s a st fr (parts fr)).1.bs a st fr (parts fr) ∧ Clean (layS s a st fr (parts fr)).1.bs ∧ Fresh (layS s a st fr (parts fr)).1.bs (st + parts fr)) ∨
     ((layS s a st fr (parts fr)).2 = 330 ∧ ∃ m, Part s.bs (layS s a st fr (parts fr)).1.bs a st fr m)) := by
  have hlen := layS_len s a st fr (parts fr)
  have hpf : ∀ i, i < parts fr → (pb st fr i).Fine := fun i hi => pb_fine (by omega) (by omega) (by omega)
  have hst : ∀ i, (pb st fr i).stamp = st + i := fun i => rfl
  have hfew : ∀ i, (pb st fr i).bytes.length ≤ 240 := fun i => by simp [pb]; omega
  rcases layS_runs (st := st) (fr := fr) hok hoff (parts fr) hin with ⟨r1, r2, r3, r4⟩ | ⟨r1, m, k, hm, hkk, r3, r5, r4⟩
  · obtain ⟨t, ht⟩ : ∃ t, t = layS s a st fr (parts fr) := ⟨_, rfl⟩
    rw [← ht] at r1 r2 r3 r4 hlen ⊢
    have hall : ∀ p, p < t.1.bs.length → (∃ j, j < parts fr ∧ p = a + j ∧ blk t.1.bs p = writeB (pb st fr j)) ∨ ((p < a ∨ a + parts fr ≤ p) ∧ blk t.1.bs p = blk s.bs p) := by
      intro p hp
      by_cases c : p < a ∨ a + parts fr ≤ p
      · exact .inr ⟨c, r4 p c⟩
      · refine .inl ⟨p - a, by omega, by omega, ?_⟩
        have := r3 (p - a) (by omega)
        rwa [show a + (p - a) = p by omega] at this
    refine ⟨fun b hb => ?_, .inl ⟨r1, r2, ⟨Nat.le_refl _, hlen, r3, fun p hp => .inl (r4 p hp)⟩, fun p hp => ?_, fun p hp => ?_⟩⟩
    · obtain ⟨p, hp, rfl⟩ := mem_blk hb
      rcases hall p hp with ⟨j, hj, _, h⟩ | ⟨_, h⟩
      · rw [h]; exact writeB_small (hfew j) (by rw [hst]; omega)
      · rw [h]; exact hs _ (blk_mem (by omega))
    · rcases hall p hp with ⟨j, hj, _, h⟩ | ⟨_, h⟩
      · rw [h]
        obtain ⟨e1, e2⟩ := writeB_ends (hpf j hj)
        rw [e1, e2]
      · rw [h]; exact hc p (by omega)
    · rcases hall p hp with ⟨j, hj, _, h⟩ | ⟨_, h⟩
      · rw [h]
        obtain ⟨e1, e2⟩ := writeB_ends (hpf j hj)
        rw [e1, e2, hst]
        omega
      · rw [h]
        have := hf p (by omega)
        omega
  · obtain ⟨t, ht⟩ : ∃ t, t = layS s a st fr (parts fr) := ⟨_, rfl⟩
    rw [← ht] at r1 r3 r4 r5 hlen ⊢
    have hold := hok.whole _ (blk_mem (bs := s.bs) (p := a + m) (by omega))
    have hsm : Small (blk t.1.bs (a + m)) := by
      rw [r5]
      exact tear_small (writeB_len (hfew m)) hold (writeB_small (hfew m) (by rw [hst]; omega)) (hs _ (blk_mem (by omega)))
    refine ⟨fun b hb => ?_, .inr ⟨r1, ?_⟩⟩
    · obtain ⟨p, hp, rfl⟩ := mem_blk hb
      by_cases c : p < a ∨ a + m < p
      · rw [r4 p c]; exact hs _ (blk_mem (by omega))
      · by_cases c2 : p = a + m
        · rw [c2]; exact hsm
        · have := r3 (p - a) (by omega)
          rw [show a + (p - a) = p by omega] at this
          rw [this]
          exact writeB_small (hfew _) (by rw [hst]; omega)
    · rcases torn_read (hpf m hm) hold (hc _ (by omega)) (by rw [hst]; have := (hf (a + m) (by omega)).2; omega) hkk with h | h | h
      · refine ⟨m, by omega, hlen, r3, fun p hp => .inl ?_⟩
        by_cases c : p = a + m
        · rw [c, r5, h]
        · exact r4 p (by omega)
      · refine ⟨m + 1, by omega, hlen, fun j hj => ?_, fun p hp => .inl (r4 p (by omega))⟩
        by_cases c : j = m
        · rw [c, r5, h]
        · exact r3 j (by omega)
      · refine ⟨m, by omega, hlen, r3, fun p hp => ?_⟩
        by_cases c : p = a + m
        · right; exact ⟨c, hm, by rw [c, r5]; exact h⟩
        · exact .inl (r4 p (by omega))
/-- a frame that is laid is read as it was put -/
theorem put_framed {life seq : Int} {body : List UInt8} (l0 : 0 ≤ life) (l1 : life < 4294967296) (s0 : 0 ≤ seq) (s1 : seq < 4294967296) (hn : need body ≤ 255) : Framed (put life seq body).1 life seq body ∧ ((parts (put life seq body).1 : Nat) : Int) = need body ∧ (put life seq body).2 = 0 := by
  have hf : (fitB life 4 && fitB seq 4) = true := by simp [fit4]; omega
  have hb : ¬ 200000 < body.length := by unfold need at hn; omega
  have hg := put_get (p := []) (q := []) hf hb
  have hlen : (put life seq body).1.length = 17 + body.length := by
    rw [put_ok hf hb]
    simp [hd_len, sumL_len]
    omega
  have hp : ((parts (put life seq body).1 : Nat) : Int) = need body := by
    unfold parts need
    rw [hlen]
    omega
  refine ⟨⟨by simpa using hg, by omega, by omega⟩, hp, by rw [put_ok hf hb]⟩
end Go.Proofs.Ytdhnegcblnpmfaa.Jrn

namespace Go.Proofs.Ytdhnegcblnpmfaa.StorW
open Go.RowKit Mem Stor
set_option linter.unusedVariables false

theorem arm_is (e : Int) (base g : Nat) (s : Sto) (a k : Int) (w : World) (h : Is w base g s) (hok : s.Ok) (he : (arm s a k).2 = e) :
    Calls Try.prog 16 #[.pointer (some ⟨g, 0, none⟩), .int .i64 a, .int .i64 k] w (IsPost base g (arm s a k).1 e w) := by rw [← he]; exact arm_any base g s a k w h hok
theorem write_is (e : Int) (base g : Nat) (s : Sto) (i : Int) (b : ByteArray) (w : World) (h : Is w base g s) (hok : s.Ok) (hw : s.wr < 1000000) (hb : b.size ≤ maxLen) (he : (write s i b.data.toList).2 = e) :
    Calls Try.prog 14 #[.pointer (some ⟨g, 0, none⟩), .int .i64 i, .string b] w (IsPost base g (write s i b.data.toList).1 e w) := by rw [← he]; exact write_any base g s i b w h hok hw hb
theorem read_is (r : List UInt8) (e : Int) (base g : Nat) (s : Sto) (i : Int) (w : World) (h : Is w base g s) (hok : s.Ok) (he : readS s i = (r, e)) :
    Calls Try.prog 26 #[.pointer (some ⟨g, 0, none⟩), .int .i64 i] w fun x w' => x = .returned (.tuple #[.string (str r), .int .i64 e]) ∧ w = w' := by
  have := read_any base g s i w h hok
  rw [he] at this
  exact this
theorem on_is (v : Bool) (base g : Nat) (s : Sto) (w : World) (h : Is w base g s) (hok : s.Ok) (he : (!s.off) = v) :
    Calls Try.prog 19 #[.pointer (some ⟨g, 0, none⟩)] w fun e w' => e = .returned (.bool v) ∧ w = w' := by rw [← he]; exact on_any base g s w h hok
theorem writes_is (v : Int) (base g : Nat) (s : Sto) (w : World) (h : Is w base g s) (hok : s.Ok) (he : s.wr = v) :
    Calls Try.prog 20 #[.pointer (some ⟨g, 0, none⟩)] w fun e w' => e = .returned (.int .i64 v) ∧ w = w' := by rw [← he]; exact writes_any base g s w h hok
theorem size_is (v : Int) (base g : Nat) (s : Sto) (w : World) (h : Is w base g s) (hok : s.Ok) (he : (s.bs.length : Int) = v) :
    Calls Try.prog 24 #[.pointer (some ⟨g, 0, none⟩)] w fun e w' => e = .returned (.int .i64 v) ∧ w = w' := by rw [← he]; exact size_any base g s w h hok

def a1 : Sto := (arm (new 2) 2 3).1
def a2 : Sto := (write a1 0 (wholeL [97, 98, 99, 100])).1
def a3 : Sto := (write a2 1 (wholeL [101, 102, 103, 104])).1
def a4 : Sto := power a3 true
def a5 : Sto := (write a4 2 (wholeL [])).1
theorem a1_ok : a1.Ok := arm_ok (new_ok 2 (by omega) (by omega)) _ _ (by omega)
theorem a2_ok : a2.Ok := write_ok a1_ok _ _
theorem a3_ok : a3.Ok := write_ok a2_ok _ _
theorem a4_ok : a4.Ok := power_ok a3_ok _
theorem a5_ok : a5.Ok := write_ok a4_ok _ _
theorem wh_size (l : List UInt8) (h : l.length ≤ 256) : (str (wholeL l)).size ≤ maxLen := by rw [str_size, wholeL_length _ h]; simp [maxLen]

def WholePost (r : List UInt8) (w : World) (e : Ending) (w' : World) : Prop := e = .returned (.string (str (wholeL r))) ∧ Below w.heap.size w w'
theorem whole_is (r : List UInt8) (w : World) (h : r.length ≤ 256) : Calls Try.prog 18 #[.string ⟨r.toArray⟩] w (WholePost r w) := whole_any ⟨r.toArray⟩ w (by simpa [ByteArray.size] using h)

end Go.Proofs.Ytdhnegcblnpmfaa.StorW

namespace Go.Proofs.Ytdhnegcblnpmfaa.StorW
open Go.RowKit Mem Stor
set_option linter.unusedVariables false

def ABC : List UInt8 := wholeL [97, 98, 99]
theorem ABC_length : ABC.length = 256 := wholeL_length _ (by simp)
/-- the blocks behind i writes, no one of them armed -/
def upto (i : Nat) : List (List UInt8) := List.replicate i ABC ++ List.replicate (90 - i) zeros
def torn (k : Nat) : List UInt8 := ABC.take k ++ zeros.drop k
def afterAll (a k : Nat) : Sto := ⟨(upto (a - 1)).set (a - 1) (torn k), true, a, 0, k⟩
def stt (a k i : Nat) : Sto := if i < a then ⟨upto i, false, i, (a : Int) - i, k⟩ else afterAll a k

theorem upto_length (i : Nat) (h : i ≤ 90) : (upto i).length = 90 := by simp [upto]; omega
theorem upto_set (i : Nat) (h : i < 90) : (upto i).set i ABC = upto (i + 1) := by
  unfold upto
  rw [show 90 - i = (90 - (i + 1)) + 1 by omega, List.replicate_succ, List.set_append_right _ _ (by simp)]
  simp only [List.length_replicate, Nat.sub_self, List.set_cons_zero]
  rw [List.replicate_succ', List.append_assoc]
  rfl
theorem upto_get (i : Nat) (h : i < 90) : (upto i).getD i [] = zeros := by
  unfold upto
  rw [List.getD_eq_getElem?_getD, List.getElem?_append_right (by simp), List.length_replicate, Nat.sub_self, List.getElem?_replicate, if_pos (by omega)]
  rfl
theorem stt_write (a k i : Nat) (ha : 1 ≤ a) (hk : k ≤ 256) (ha9 : a ≤ 60) (hi : i < 90) : write (stt a k i) (i : Int) ABC = (stt a k (i + 1), if i + 1 < a then 0 else 330) := by
  have hA := ABC_length
  by_cases h : i < a
  · have hs : stt a k i = ⟨upto i, false, i, (a : Int) - i, k⟩ := by simp [stt, h]
    have hr : reach (stt a k i) i = 0 := by
      rw [hs, reach]
      simp only [Bool.false_eq_true, if_false]
      rw [upto_length i (by omega), if_neg (by omega)]
    rw [write, hr, if_neg (by simp), if_neg (by simp [hA]), hs]
    simp only [Int.toNat_natCast]
    by_cases h1 : i + 1 < a
    · rw [if_neg (by omega), if_pos h1, upto_set i hi]
      have : stt a k (i + 1) = ⟨upto (i + 1), false, (i + 1 : Nat), (a : Int) - (i + 1 : Nat), k⟩ := by simp [stt, h1]
      rw [this]
      congr 1
      simp
      omega
    · obtain rfl : a = i + 1 := by omega
      rw [if_pos (by omega), if_neg h1, upto_get i hi]
      have : stt (i + 1) k (i + 1) = afterAll (i + 1) k := by simp [stt]
      rw [this, afterAll]
      simp [torn]
  · have hs : stt a k i = afterAll a k := by simp [stt, h]
    have hs' : stt a k (i + 1) = afterAll a k := by simp [stt]; omega
    have hr : reach (afterAll a k) i = 330 := by simp [reach, afterAll]
    rw [hs, hs', write, hr, if_pos (by simp), if_neg (by omega)]
theorem stt_ok (a k i : Nat) (ha : 1 ≤ a) (hk : k ≤ 256) (ha9 : a ≤ 60) (hi : i ≤ 90) : (stt a k i).Ok := by
  induction i with
  | zero =>
    have hs : stt a k 0 = ⟨upto 0, false, 0, a, k⟩ := by simp [stt]; omega
    rw [hs]
    refine ⟨by rw [upto_length 0 (by omega)]; omega, by rw [upto_length 0 (by omega)]; omega, fun b hb => ?_, by simp, by simp; omega, by simp, by simp; omega, by simp⟩
    have : b ∈ List.replicate 90 zeros := by simpa [upto] using hb
    rw [List.eq_of_mem_replicate this]; exact zeros_length
  | succ i ih =>
    have h1 := stt_write a k i ha hk ha9 (by omega)
    have := write_ok (ih (by omega)) (i : Int) ABC
    rw [h1] at this
    exact this
theorem stt_wr (a k i : Nat) (ha9 : a ≤ 60) : (stt a k i).wr < 1000000 := by
  unfold stt
  split
  · simp; omega
  · simp [afterAll]; omega
theorem stt_start (a k : Nat) (ha : 1 ≤ a) (hk : k ≤ 256) : arm (new 90) a k = (stt a k 0, 0) := by
  have : stt a k 0 = ⟨upto 0, false, 0, a, k⟩ := by simp [stt]; omega
  rw [arm, if_neg (by simp [new]), if_neg (by omega), this]
  simp [new, upto]
theorem after_length (a k : Nat) (ha9 : a ≤ 60) : (afterAll a k).bs.length = 90 := by simp [afterAll, upto_length (a - 1) (by omega)]

/-- what block j is toX9 be -/
def want (a k j : Nat) : List UInt8 := if j + 1 < a then ABC else if j + 1 = a then wholeL (ABC.take k) else wholeL []
theorem after_get (a k j : Nat) (ha : 1 ≤ a) (hk : k ≤ 256) (ha9 : a ≤ 60) (hj : j < 90) : (afterAll a k).bs[j]? = some (want a k j) := by
  have htorn : torn k = wholeL (ABC.take k) := by
    rw [torn, wholeL, List.length_take, ABC_length, Nat.min_eq_left hk]
  have hz : wholeL [] = zeros := by simp [wholeL]
  have hul := upto_length (a - 1) (by omega)
  unfold afterAll want
  simp only
  by_cases h1 : j + 1 = a
  · subst h1
    rw [if_neg (by omega), if_pos rfl, Nat.add_sub_cancel, List.getElem?_set_self (by rw [Nat.add_sub_cancel] at hul; omega), htorn]
  · rw [List.getElem?_set_ne (by omega)]
    unfold upto
    by_cases h2 : j + 1 < a
    · rw [if_pos h2, List.getElem?_append_left (by rw [List.length_replicate]; omega), List.getElem?_replicate, if_pos (by omega)]
    · rw [if_neg h2, if_neg h1, List.getElem?_append_right (by rw [List.length_replicate]; omega), hz, List.length_replicate, List.getElem?_replicate, if_pos (by omega)]

theorem whole_cut (k : Nat) (w : World) (hk : k ≤ 256) : Calls Try.prog 18 #[.string ((str (wholeL [97, 98, 99])).extract 0 k)] w (WholePost (ABC.take k) w) := by
  have e : ((str (wholeL [97, 98, 99])).extract 0 k).data.toList = ABC.take k := by rw [Lib.extract_data, str_data]; simp [ABC]
  have hz : ((str (wholeL [97, 98, 99])).extract 0 k).size ≤ 256 := by
    have h1 := congrArg List.length e
    rw [List.length_take, ABC_length] at h1
    have h2 : ((str (wholeL [97, 98, 99])).extract 0 k).data.toList.length = ((str (wholeL [97, 98, 99])).extract 0 k).size := by simp
    omega
  have := whole_any ((str (wholeL [97, 98, 99])).extract 0 k) w hz
  rw [e] at this
  exact this
def ImgPostN (w : World) (N : Nat) (l : List (List UInt8)) (x : Ending) (w' : World) : Prop := ∃ A c, x = .returned (.slice A N c) ∧ w'.ownsRow w.heap.size 9 1 (.slice A N c) N (sv l) ∧ Below w.heap.size w w'
theorem image_is (N base g : Nat) (s : Sto) (w : World) (h : Is w base g s) (hok : s.Ok) (hN : s.bs.length = N) :
    Calls Try.prog 17 #[.pointer (some ⟨g, 0, none⟩)] w (ImgPostN w N s.bs) := by
  subst hN
  exact image_any base g s w h hok
def ArmRel (w : World) (g a k M : Nat) (i : Value) (wr : World) : Prop := ∃ j : Nat, j ≤ M ∧ i = .int .i64 j ∧ Is wr w.heap.size g (stt a k j) ∧ Below w.heap.size w wr
def ChkRel (w : World) (g : Nat) (S : Sto) (A : Option Addr) (c base : Nat) (i : Value) (wr : World) : Prop :=
  ∃ j : Nat, j ≤ 90 ∧ i = .int .i64 j ∧ Is wr w.heap.size g S ∧ wr.ownsRow base 9 1 (.slice A 90 c) 90 (sv S.bs) ∧ Below w.heap.size w wr

theorem str_eq_ne {x y : ByteArray} (h : x = y) : (!(x.toList == y.toList)) = false := by rw [h]; simp
end Go.Proofs.Ytdhnegcblnpmfaa.StorW
