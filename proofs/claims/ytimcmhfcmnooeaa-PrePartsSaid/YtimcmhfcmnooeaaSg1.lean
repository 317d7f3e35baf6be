/- Lexing is local: a text with a line's end behind it has its own tokens, wherever it stands. -/
import Derived.Test.YtimcmhfcmnooeaaPlA
namespace Go.Proofs.Ytimcmhfcmnooeaa
set_option linter.unusedVariables false
set_option linter.unusedSimpArgs false
open Go.RowKit Go.Proofs.YtimcmhfcmnooeaaW.PrintWords Go.Proofs.YtimcmhfcmnooeaaW.PrintLast Go.Proofs.YtimcmhfcmnooeaaW.PrintMore

/-- a stands in s at the place o, and a line ends behind it, or the text. -/
structure Seg (s a : ByteArray) (o : Nat) : Prop where
  fit : o + a.size ≤ s.size
  small : s.size ≤ 65536
  same : ∀ i : Nat, i < a.size → bt s ((o + i : Nat) : Int) = bt a (i : Int)
  nl : o + a.size = s.size ∨ o + a.size < s.size ∧ bt s ((o + a.size : Nat) : Int) = 10

theorem bt_inj {s t : ByteArray} {i j : Nat} (hi : i < s.size) (hj : j < t.size) (h : bt s i = bt t j) : s.data.toList[i]? = t.data.toList[j]? := by
  rw [bt_get s i hi, bt_get t j hj] at h
  rw [List.getElem?_eq_getElem (by simpa using hi), List.getElem?_eq_getElem (by simpa using hj)]
  congr 1
  exact UInt8.toNat_inj.1 (by omega)

theorem ba_ext {x y : ByteArray} (h : x.data.toList = y.data.toList) : x = y := by
  obtain ⟨⟨x⟩⟩ := x
  obtain ⟨⟨y⟩⟩ := y
  simp at h
  rw [h]

theorem Seg.extract {s a : ByteArray} {o : Nat} (h : Seg s a o) (x e : Nat) (hx : x ≤ e) (he : e ≤ a.size) : s.extract (o + x) (o + e) = a.extract x e := by
  apply ba_ext
  apply List.ext_getElem?
  intro i
  have hfit := h.fit
  simp only [ByteArray.data_extract, Array.toList_extract, List.extract_eq_take_drop]
  by_cases hi : i < e - x
  · rw [List.getElem?_take, if_pos (by omega), List.getElem?_drop, List.getElem?_take, if_pos hi, List.getElem?_drop]
    rw [show o + x + i = o + (x + i) from by omega]
    exact bt_inj (by omega) (by omega) (h.same (x + i) (by omega))
  · rw [List.getElem?_eq_none (by simp; omega), List.getElem?_eq_none (by simp; omega)]

/-- begins of two bytes, byte by byte -/
theorem begins_two (s : ByteArray) (p : Nat) (c d : UInt8) (hs : s.size ≤ 65536) (hp : p ≤ s.size) :
    silkwormref02_begins.f s p ⟨#[c, d]⟩ = some (decide (p + 1 < s.size ∧ bt s p = c.toNat ∧ bt s ((p + 1 : Nat) : Int) = d.toNat)) := by
  unfold silkwormref02_begins.f
  have hz : ((⟨#[c, d]⟩ : ByteArray).size : Int) = 2 := rfl
  rw [hz, w64 (n := (s.size : Int) - p) (by omega) (by omega), w64 (n := (p : Int) + 2) (by omega) (by omega)]
  by_cases h : (s.size : Int) - p ≥ 2
  · rw [if_pos h, if_pos (by omega), if_pos (by omega), if_pos (by omega)]
    congr 1
    rw [tl_data, tl_data, show ((p : Int) + 2).toNat = p + 2 from by omega, Int.toNat_natCast]
    have e1 : (s.extract p (p + 2)).data.toList = [s.data.toList[p]'(by simp; omega), s.data.toList[p + 1]'(by simp; omega)] := by
      apply List.ext_getElem?
      intro i
      simp only [ByteArray.data_extract, Array.toList_extract, List.extract_eq_take_drop]
      rw [List.getElem?_take, List.getElem?_drop]
      by_cases hi : i < p + 2 - p
      · rw [if_pos hi, List.getElem?_eq_getElem (by simp; omega)]
        rcases (by omega : i = 0 ∨ i = 1) with rfl | rfl <;> rfl
      · rw [if_neg hi, List.getElem?_eq_none (by simp; omega)]
    rw [e1, bt_get s p (by omega), bt_get s (p + 1) (by omega)]
    rw [Bool.eq_iff_iff]
    simp only [beq_iff_eq, decide_eq_true_eq, List.cons.injEq, and_true]
    constructor
    · rintro ⟨h1, h2⟩
      exact ⟨by omega, by rw [h1], by rw [h2]⟩
    · rintro ⟨_, h1, h2⟩
      exact ⟨UInt8.toNat_inj.1 (by omega), UInt8.toNat_inj.1 (by omega)⟩
  · rw [if_neg h]
    congr 1
    rw [eq_comm, decide_eq_false_iff_not]
    rintro ⟨h1, _⟩
    omega

theorem Seg.begins {s a : ByteArray} {o : Nat} (h : Seg s a o) (p : Nat) (hp : p ≤ a.size) (c d : UInt8) (hc : (c.toNat : Int) ≠ 10) (hd : (d.toNat : Int) ≠ 10) : silkwormref02_begins.f s ((o + p : Nat) : Int) ⟨#[c, d]⟩ = silkwormref02_begins.f a p ⟨#[c, d]⟩ := by
  have hfit := h.fit
  have hsm := h.small
  rw [begins_two s (o + p) c d hsm (by omega), begins_two a p c d (by omega) (by omega)]
  congr 1
  rw [Bool.eq_iff_iff]
  simp only [decide_eq_true_eq]
  constructor
  · rintro ⟨h1, h2, h3⟩
    rcases Nat.lt_or_ge p a.size with h5 | h5
    · have e0 := h.same p h5
      rcases Nat.lt_or_ge (p + 1) a.size with h4 | h4
      · have e1 := h.same (p + 1) h4
        exact ⟨h4, by rw [← e0]; exact h2, by rw [← e1]; exact h3⟩
      · have : o + p + 1 = o + a.size := by omega
        rcases h.nl with hE | ⟨_, hN⟩
        · omega
        rw [this, hN] at h3
        exact absurd h3.symm hd
    · have : o + p = o + a.size := by omega
      rcases h.nl with hE | ⟨_, hN⟩
      · omega
      rw [this, hN] at h2
      exact absurd h2.symm hc
  · rintro ⟨h1, h2, h3⟩
    have e0 := h.same p (by omega)
    have e1 := h.same (p + 1) h1
    exact ⟨by omega, by rw [e0]; exact h2, by rw [show o + p + 1 = o + (p + 1) from rfl, e1]; exact h3⟩

theorem Seg.behind_l0 {s a : ByteArray} {o : Nat} (h : Seg s a o) : ∀ (k p : Nat) (r : Int), p ≤ a.size → silkwormref02_behind.l0 k a p = some r → silkwormref02_behind.l0 k s ((o + p : Nat) : Int) = some (o + r) ∧ (p : Int) ≤ r ∧ r ≤ a.size := by
  have hfit := h.fit
  have hsm := h.small
  intro k
  induction k with
  | zero => intro p r _ hr; cases hr
  | succ k ih =>
    intro p r hp hr
    rw [silkwormref02_behind.l0] at hr ⊢
    rcases Nat.lt_or_ge p a.size with h5 | h5
    · rw [if_pos (show ((o + p : Nat) : Int) < s.size by omega), if_pos (show 0 ≤ ((o + p : Nat) : Int) by omega)]
      rw [if_pos (by omega), if_pos (by omega)] at hr
      rw [h.same p h5]
      by_cases h10 : bt a p = 10
      · rw [if_pos h10] at hr ⊢
        injection hr with hr
        subst hr
        exact ⟨by congr 1, by omega, by omega⟩
      · rw [if_neg h10, w64 (by omega) (by omega)] at hr ⊢
        have := ih (p + 1) r (by omega) (by rw [show ((p + 1 : Nat) : Int) = (p : Int) + 1 from by omega]; exact hr)
        rw [show ((o + (p + 1) : Nat) : Int) = ((o + p : Nat) : Int) + 1 from by omega] at this
        exact ⟨this.1, by omega, this.2.2⟩
    · rw [if_neg (by omega)] at hr
      injection hr with hr
      subst hr
      refine ⟨?_, by omega, by omega⟩
      rcases h.nl with hE | ⟨hL, hN⟩
      · rw [if_neg (by omega)]
        congr 1
      · rw [if_pos (by omega), if_pos (by omega), show o + p = o + a.size from by omega, if_pos hN]
        congr 1
        omega

theorem Seg.behind_l1 {s a : ByteArray} {o : Nat} (h : Seg s a o) : ∀ (k p : Nat) (r : Int), silkwormref02_behind.l1 k a p = some r → 0 ≤ r → silkwormref02_behind.l1 k s ((o + p : Nat) : Int) = some (o + r) ∧ (p : Int) ≤ r ∧ r ≤ a.size := by
  have hfit := h.fit
  have hsm := h.small
  intro k
  induction k with
  | zero => intro p r hr; cases hr
  | succ k ih =>
    intro p r hr h0
    rw [silkwormref02_behind.l1] at hr ⊢
    by_cases hp : p < a.size
    · rw [if_pos (by omega)] at hr ⊢
      rw [h.begins p (by omega) 42 47 (by decide) (by decide)]
      rw [begins_two a p 42 47 (by omega) (by omega)] at hr ⊢
      simp only [Option.bind_some] at hr ⊢
      by_cases hb : p + 1 < a.size ∧ bt a p = (42 : UInt8).toNat ∧ bt a ((p + 1 : Nat) : Int) = (47 : UInt8).toNat
      · rw [decide_eq_true hb, if_pos rfl, w64 (by omega) (by omega)] at hr ⊢
        injection hr with hr
        subst hr
        exact ⟨by congr 1, by omega, by omega⟩
      · rw [decide_eq_false hb, if_neg (by simp), w64 (by omega) (by omega)] at hr ⊢
        have := ih (p + 1) r (by rw [show ((p + 1 : Nat) : Int) = (p : Int) + 1 from by omega]; exact hr) h0
        rw [show ((o + (p + 1) : Nat) : Int) = ((o + p : Nat) : Int) + 1 from by omega] at this
        exact ⟨this.1, by omega, this.2.2⟩
    · rw [if_neg (by omega)] at hr
      injection hr with hr
      omega

theorem Seg.behind {s a : ByteArray} {o : Nat} (h : Seg s a o) (k p : Nat) (r : Int) (hp : p < a.size) (hr : silkwormref02_behind.f k a p = some r) (h0 : 0 ≤ r) : silkwormref02_behind.f k s ((o + p : Nat) : Int) = some (o + r) ∧ (p : Int) ≤ r ∧ r ≤ a.size := by
  have hfit := h.fit
  have hsm := h.small
  unfold silkwormref02_behind.f at hr ⊢
  rw [h.begins p (by omega) 47 47 (by decide) (by decide), h.begins p (by omega) 47 42 (by decide) (by decide)]
  rw [begins_two a p 47 47 (by omega) (by omega), begins_two a p 47 42 (by omega) (by omega)] at hr ⊢
  simp only [Option.bind_some] at hr ⊢
  split at hr
  · rename_i h1
    rw [if_pos h1]
    exact h.behind_l0 k p r (by omega) hr
  · rename_i h1
    rw [if_neg h1]
    split at hr
    · rename_i h2
      rw [if_pos h2]
      rw [w64 (by omega) (by omega)] at hr ⊢
      have := h.behind_l1 k (p + 2) r (by rw [show ((p + 2 : Nat) : Int) = (p : Int) + 2 from by omega]; exact hr) h0
      rw [show ((o + (p + 2) : Nat) : Int) = ((o + p : Nat) : Int) + 2 from by omega] at this
      exact ⟨this.1, by omega, this.2.2⟩
    · injection hr with hr
      omega

/-- a sign is where it is -/
theorem Seg.sign_l1 {s a : ByteArray} {o : Nat} (h : Seg s a o) (p : Nat) (hp : p < a.size) (t : ByteArray) : ∀ (k : Nat) (i : Int), silkwormref02_sign.l1 k s ((o + p : Nat) : Int) t i = silkwormref02_sign.l1 k a p t i := by
  have hfit := h.fit
  intro k
  induction k with
  | zero => intro i; rfl
  | succ k ih =>
    intro i
    rw [silkwormref02_sign.l1, silkwormref02_sign.l1, h.same p hp, ih, if_pos (show 0 ≤ ((o + p : Nat) : Int) by omega), if_pos (show ((o + p : Nat) : Int) < s.size by omega), if_pos (show 0 ≤ (p : Int) by omega), if_pos (show (p : Int) < a.size by omega)]
theorem Seg.sign_l0 {s a : ByteArray} {o : Nat} (h : Seg s a o) (p : Nat) (hp : p < a.size) (L : List ByteArray) (hL : ∀ i : Int, 0 ≤ i → i < L.length → ∃ c d : UInt8, rdOf ByteArray.empty L i = ⟨#[c, d]⟩ ∧ (c.toNat : Int) ≠ 10 ∧ (d.toNat : Int) ≠ 10) : ∀ (k : Nat) (i : Int), silkwormref02_sign.l0 k s ((o + p : Nat) : Int) L i = silkwormref02_sign.l0 k a p L i := by
  intro k
  induction k with
  | zero => intro i; rfl
  | succ k ih =>
    intro i
    rw [silkwormref02_sign.l0, silkwormref02_sign.l0, ih, h.sign_l1 p hp]
    split
    · split
      · rename_i h1 h0
        obtain ⟨c, d, e, hc, hd⟩ := hL i h0 h1
        rw [e, h.begins p (by omega) c d hc hd]
      · rfl
    · rfl
theorem Seg.sign {s a : ByteArray} {o : Nat} (h : Seg s a o) (k p : Nat) (hp : p < a.size) : silkwormref02_sign.f k s ((o + p : Nat) : Int) = silkwormref02_sign.f k a p := by
  unfold silkwormref02_sign.f
  refine h.sign_l0 p hp _ ?_ k 0
  intro i h0 h1
  simp only [List.length_cons, List.length_nil] at h1
  rcases (by omega : i = 0 ∨ i = 1 ∨ i = 2 ∨ i = 3 ∨ i = 4 ∨ i = 5 ∨ i = 6 ∨ i = 7) with rfl | rfl | rfl | rfl | rfl | rfl | rfl | rfl <;> exact ⟨_, _, rfl, by decide, by decide⟩

/-- what one finds, so much later -/
def mvR (o : Nat) (t : Int × ByteArray × Int × Int × Int) : Int × ByteArray × Int × Int × Int := (t.1, t.2.1, t.2.2.1 + o, t.2.2.2.1 + o, t.2.2.2.2)

theorem Seg.one_j3 {s a : ByteArray} {o : Nat} (h : Seg s a o) (k p e x : Nat) (t : Int × ByteArray × Int × Int × Int) (hp : p < a.size) (hx : x ≤ e) (he : e ≤ a.size) (ht : silkwormref02_one.j3 k a p e x = some t) (h0 : t.2.2.2.2 = 0) : silkwormref02_one.j3 k s ((o + p : Nat) : Int) ((o + e : Nat) : Int) ((o + x : Nat) : Int) = some (mvR o t) := by
  have hfit := h.fit
  have hsm := h.small
  cases k with
  | zero => cases ht
  | succ k =>
    rw [silkwormref02_one.j3] at ht ⊢
    rw [w64 (n := (e : Int) - x) (by omega) (by omega), if_pos (show 0 ≤ (p : Int) by omega), if_pos (show (p : Int) < a.size by omega), if_pos (show 0 ≤ (x : Int) by omega), if_pos (show (x : Int) ≤ e by omega), if_pos (show (e : Int) ≤ a.size by omega)] at ht
    rw [w64 (n := ((o + e : Nat) : Int) - ((o + x : Nat) : Int)) (by omega) (by omega), if_pos (show 0 ≤ ((o + p : Nat) : Int) by omega), if_pos (show ((o + p : Nat) : Int) < s.size by omega), if_pos (show 0 ≤ ((o + x : Nat) : Int) by omega), if_pos (show ((o + x : Nat) : Int) ≤ ((o + e : Nat) : Int) by omega), if_pos (show ((o + e : Nat) : Int) ≤ s.size by omega), h.same p hp]
    rw [show ((o + e : Nat) : Int) - ((o + x : Nat) : Int) = (e : Int) - x from by omega]
    rw [Int.toNat_natCast, Int.toNat_natCast] at ht ⊢
    rw [h.extract x e hx he]
    split at ht
    · injection ht with ht
      rw [← ht] at h0
      exact absurd h0 (by decide)
    · rename_i h1
      rw [if_neg h1]
      split at ht
      · rename_i h2
        rw [if_pos h2]
        injection ht with ht
        subst ht
        simp only [mvR]
        congr 5 <;> omega
      · rename_i h2
        rw [if_neg h2]
        simp only [if_pos (show 0 ≤ (x : Int) by omega), if_pos (show (x : Int) ≤ e by omega), if_pos (show (e : Int) ≤ a.size by omega)] at ht
        simp only [if_pos (show 0 ≤ ((o + x : Nat) : Int) by omega), if_pos (show ((o + x : Nat) : Int) ≤ ((o + e : Nat) : Int) by omega), if_pos (show ((o + e : Nat) : Int) ≤ s.size by omega)]
        injection ht with ht
        subst ht
        simp only [mvR]
        congr 5 <;> omega

theorem word10 : silkwormref02_word.f 10 = some false := by decide
theorem letter10 : silkwormref02_Letter.f 10 = some false := by decide

theorem Seg.one_l0 {s a : ByteArray} {o : Nat} (h : Seg s a o) (p x : Nat) (t : Int × ByteArray × Int × Int × Int) (hp : p < a.size) (h0 : t.2.2.2.2 = 0) : ∀ (k e : Nat), x ≤ e → e ≤ a.size → silkwormref02_one.l0 k a p e x = some t → silkwormref02_one.l0 k s ((o + p : Nat) : Int) ((o + e : Nat) : Int) ((o + x : Nat) : Int) = some (mvR o t) := by
  have hfit := h.fit
  have hsm := h.small
  intro k
  induction k with
  | zero => intro e _ _ ht; cases ht
  | succ k ih =>
    intro e hx he ht
    rw [silkwormref02_one.l0] at ht ⊢
    rcases Nat.lt_or_ge e a.size with h5 | h5
    · rw [if_pos (show ((o + e : Nat) : Int) < s.size by omega), if_pos (show 0 ≤ ((o + e : Nat) : Int) by omega)]
      rw [if_pos (by omega), if_pos (by omega)] at ht
      rw [h.same e h5]
      obtain ⟨b, hb, _⟩ := word_some (bt a e)
      rw [hb] at ht ⊢
      simp only [Option.bind_some] at ht ⊢
      split at ht
      · rename_i h1
        rw [if_pos h1, w64 (by omega) (by omega)]
        rw [w64 (by omega) (by omega)] at ht
        have := ih (e + 1) (by omega) (by omega) (by rw [show ((e + 1 : Nat) : Int) = (e : Int) + 1 from by omega]; exact ht)
        rw [show ((o + (e + 1) : Nat) : Int) = ((o + e : Nat) : Int) + 1 from by omega] at this
        exact this
      · rename_i h1
        rw [if_neg h1]
        exact h.one_j3 k p e x t hp hx he ht h0
    · rw [if_neg (by omega)] at ht
      rcases h.nl with hE | ⟨hL, hN⟩
      · rw [if_neg (by omega)]
        exact h.one_j3 k p e x t hp hx he ht h0
      rw [if_pos (show ((o + e : Nat) : Int) < s.size by omega), if_pos (show 0 ≤ ((o + e : Nat) : Int) by omega)]
      rw [show bt s ((o + e : Nat) : Int) = 10 from by rw [show o + e = o + a.size from by omega]; exact hN, word10]
      simp only [Option.bind_some]
      rw [if_neg (by simp)]
      exact h.one_j3 k p e x t hp hx he ht h0

theorem Seg.one_j5 {s a : ByteArray} {o : Nat} (h : Seg s a o) (k p e : Nat) (t : Int × ByteArray × Int × Int × Int) (hp : p ≤ e) (he : e ≤ a.size) (ht : silkwormref02_one.j5 k a p e = some t) (h0 : t.2.2.2.2 = 0) : silkwormref02_one.j5 k s ((o + p : Nat) : Int) ((o + e : Nat) : Int) = some (mvR o t) := by
  have hfit := h.fit
  have hsm := h.small
  cases k with
  | zero => cases ht
  | succ k =>
    rw [silkwormref02_one.j5] at ht ⊢
    rw [if_pos (show 0 ≤ (p : Int) by omega), if_pos (show (p : Int) ≤ e by omega), if_pos (show (e : Int) ≤ a.size by omega)] at ht
    rw [if_pos (show 0 ≤ ((o + p : Nat) : Int) by omega), if_pos (show ((o + p : Nat) : Int) ≤ ((o + e : Nat) : Int) by omega), if_pos (show ((o + e : Nat) : Int) ≤ s.size by omega)]
    rw [Int.toNat_natCast, Int.toNat_natCast] at ht ⊢
    rw [h.extract p e hp he]
    cases hn : silkwormref02_Number.f k (a.extract p e) with
    | none => rw [hn] at ht; cases ht
    | some r =>
      rw [hn] at ht
      simp only [Option.bind_some] at ht ⊢
      split at ht
      · rename_i h1
        rw [if_pos h1]
        injection ht with ht
        subst ht
        simp only [mvR]
        congr 5 <;> omega
      · rename_i h1
        injection ht with ht
        rw [← ht] at h0
        exact absurd h0 h1

theorem Seg.one_l1 {s a : ByteArray} {o : Nat} (h : Seg s a o) (p : Nat) (t : Int × ByteArray × Int × Int × Int) (hp : p < a.size) (h0 : t.2.2.2.2 = 0) : ∀ (k e : Nat), p ≤ e → e ≤ a.size → silkwormref02_one.l1 k a p e = some t → silkwormref02_one.l1 k s ((o + p : Nat) : Int) ((o + e : Nat) : Int) = some (mvR o t) := by
  have hfit := h.fit
  have hsm := h.small
  intro k
  induction k with
  | zero => intro e _ _ ht; cases ht
  | succ k ih =>
    intro e hx he ht
    rw [silkwormref02_one.l1] at ht ⊢
    rcases Nat.lt_or_ge e a.size with h5 | h5
    · rw [if_pos (show ((o + e : Nat) : Int) < s.size by omega), if_pos (show 0 ≤ ((o + e : Nat) : Int) by omega)]
      rw [if_pos (by omega), if_pos (by omega)] at ht
      rw [h.same e h5]
      obtain ⟨b, hb, _⟩ := word_some (bt a e)
      rw [hb] at ht ⊢
      simp only [Option.bind_some] at ht ⊢
      have hnext : silkwormref02_one.l1 k a p (wrap64 ((e : Int) + 1)) = some t → silkwormref02_one.l1 k s ((o + p : Nat) : Int) (wrap64 (((o + e : Nat) : Int) + 1)) = some (mvR o t) := by
        intro ht
        rw [w64 (by omega) (by omega)] at ht ⊢
        have := ih (e + 1) (by omega) (by omega) (by rw [show ((e + 1 : Nat) : Int) = (e : Int) + 1 from by omega]; exact ht)
        rw [show ((o + (e + 1) : Nat) : Int) = ((o + e : Nat) : Int) + 1 from by omega] at this
        exact this
      split at ht
      · rename_i h1
        rw [if_pos h1]
        exact hnext ht
      · rename_i h1
        rw [if_neg h1]
        split at ht
        · rename_i h2
          rw [if_pos h2]
          exact hnext ht
        · rename_i h2
          rw [if_neg h2]
          exact h.one_j5 k p e t hx he ht h0
    · rw [if_neg (by omega)] at ht
      rcases h.nl with hE | ⟨hL, hN⟩
      · rw [if_neg (by omega)]
        exact h.one_j5 k p e t hx he ht h0
      rw [if_pos (show ((o + e : Nat) : Int) < s.size by omega), if_pos (show 0 ≤ ((o + e : Nat) : Int) by omega)]
      rw [show bt s ((o + e : Nat) : Int) = 10 from by rw [show o + e = o + a.size from by omega]; exact hN, word10]
      simp only [Option.bind_some]
      rw [if_neg (by simp), if_neg (by decide)]
      exact h.one_j5 k p e t hx he ht h0

theorem Seg.one_j1 {s a : ByteArray} {o : Nat} (h : Seg s a o) (k p e : Nat) (x : Bool) (t : Int × ByteArray × Int × Int × Int) (hp : p < a.size) (hpe : p ≤ e) (he : e ≤ a.size) (ht : silkwormref02_one.j1 k a p e x = some t) (h0 : t.2.2.2.2 = 0) : silkwormref02_one.j1 k s ((o + p : Nat) : Int) ((o + e : Nat) : Int) x = some (mvR o t) := by
  have hfit := h.fit
  have hsm := h.small
  cases k with
  | zero => cases ht
  | succ k =>
    rw [silkwormref02_one.j1] at ht ⊢
    split at ht
    · rename_i h1
      rw [if_pos h1]
      exact h.one_l0 p e t hp h0 k e (by omega) he ht
    · rename_i h1
      rw [if_neg h1]
      rw [if_pos (show 0 ≤ (p : Int) by omega), if_pos (show (p : Int) < a.size by omega)] at ht
      rw [if_pos (show 0 ≤ ((o + p : Nat) : Int) by omega), if_pos (show ((o + p : Nat) : Int) < s.size by omega), h.same p hp, h.sign k p hp]
      obtain ⟨b, hb⟩ := digit_some (bt a p)
      rw [hb] at ht ⊢
      simp only [Option.bind_some] at ht ⊢
      split at ht
      · rename_i h2
        rw [if_pos h2]
        exact h.one_l1 p t hp h0 k e hpe he ht
      · rename_i h2
        rw [if_neg h2]
        cases hn : silkwormref02_sign.f k a p with
        | none => rw [hn] at ht; cases ht
        | some r =>
          rw [hn] at ht
          simp only [Option.bind_some] at ht ⊢
          split at ht
          · rename_i h1
            injection ht with ht
            rw [← ht] at h0
            exact absurd h0 (by decide)
          · rename_i h1
            rw [if_neg h1]
            injection ht with ht
            subst ht
            have hz : r.size ≤ 2 := by
              obtain ⟨r', hr', hz', _⟩ := sign_some a (by omega) p (by omega) (by omega) (k + 201) (by omega)
              have h3 := at_rounds (g := fun k => silkwormref02_sign.f k a p) (fun k => silkwormref02_sign.mono _ _ k) (show k ≤ k + 201 by omega) hn
              rw [show silkwormref02_sign.f (k + 201) a p = some r from h3] at hr'
              injection hr' with hr'
              rw [hr']
              exact hz'
            simp only [mvR]
            rw [w64 (by omega) (by omega), w64 (by omega) (by omega)]
            congr 5 <;> omega

theorem Seg.one {s a : ByteArray} {o : Nat} (h : Seg s a o) (k p : Nat) (t : Int × ByteArray × Int × Int × Int) (hp : p < a.size) (ht : silkwormref02_one.f k a p = some t) (h0 : t.2.2.2.2 = 0) : silkwormref02_one.f k s ((o + p : Nat) : Int) = some (mvR o t) := by
  have hfit := h.fit
  have hsm := h.small
  have hj0 : ∀ (e : Nat), p ≤ e → e ≤ a.size → silkwormref02_one.j0 k a p e = some t → silkwormref02_one.j0 k s ((o + p : Nat) : Int) ((o + e : Nat) : Int) = some (mvR o t) := by
    intro e hpe he ht
    cases k with
    | zero => cases ht
    | succ k =>
      rw [silkwormref02_one.j0] at ht ⊢
      rcases Nat.lt_or_ge e a.size with h5 | h5
      · rw [if_pos (show ((o + e : Nat) : Int) < s.size by omega), if_pos (show 0 ≤ ((o + e : Nat) : Int) by omega)]
        rw [if_pos (by omega), if_pos (by omega)] at ht
        rw [h.same e h5]
        obtain ⟨b, hb⟩ := letter_some (bt a e)
        rw [hb] at ht ⊢
        simp only [Option.bind_some] at ht ⊢
        exact h.one_j1 k p e b t hp hpe he ht h0
      · rw [if_neg (by omega)] at ht
        rcases h.nl with hE | ⟨hL, hN⟩
        · rw [if_neg (by omega)]
          exact h.one_j1 k p e false t hp hpe he ht h0
        rw [if_pos (show ((o + e : Nat) : Int) < s.size by omega), if_pos (show 0 ≤ ((o + e : Nat) : Int) by omega)]
        rw [show bt s ((o + e : Nat) : Int) = 10 from by rw [show o + e = o + a.size from by omega]; exact hN, letter10]
        simp only [Option.bind_some]
        exact h.one_j1 k p e false t hp hpe he ht h0
  unfold silkwormref02_one.f at ht ⊢
  rw [if_pos (show 0 ≤ (p : Int) by omega), if_pos (show (p : Int) < a.size by omega)] at ht
  rw [if_pos (show 0 ≤ ((o + p : Nat) : Int) by omega), if_pos (show ((o + p : Nat) : Int) < s.size by omega), h.same p hp]
  split at ht
  · rename_i h1
    rw [if_pos h1, w64 (by omega) (by omega)]
    rw [w64 (by omega) (by omega)] at ht
    have := hj0 (p + 1) (by omega) (by omega) (by rw [show ((p + 1 : Nat) : Int) = (p : Int) + 1 from by omega]; exact ht)
    rw [show ((o + (p + 1) : Nat) : Int) = ((o + p : Nat) : Int) + 1 from by omega] at this
    exact this
  · rename_i h1
    rw [if_neg h1]
    exact hj0 p (by omega) (by omega) ht

theorem one_ok {s : ByteArray} (hs : s.size ≤ 65536) {p : Nat} (hp : p < s.size) {k : Nat} {t : Int × ByteArray × Int × Int × Int} (ht : silkwormref02_one.f k s p = some t) : OneOk s p t := by
  obtain ⟨r, hr, hok⟩ := one_some s hs p (by omega) (by omega) (k + 5 * s.size + 501) (by omega)
  have h3 := at_rounds (g := fun k => silkwormref02_one.f k s p) (fun k => silkwormref02_one.mono _ _ k) (show k ≤ k + 5 * s.size + 501 by omega) ht
  rw [show silkwormref02_one.f (k + 5 * s.size + 501) s p = some t from h3] at hr
  injection hr with hr
  rw [hr]
  exact hok
end Go.Proofs.Ytimcmhfcmnooeaa
