/- StatsOf, plainly: floats that are the same or both none; counting by floats. StatsOf, plainly: the times, the gaps, what is counted over them. StatsOf, plainly: the lesser and the greater of two floats, as built in. StatsOf, plainly: gaps of times that stand in order are 0 or more. StatsOf, plainly: the mean of gaps is a number; a gap less the mean is one. -/
import Derived.Test.YtcbkgammlfjjoaaDoorMgF
import Derived.Test.YtcbkgammlfjjoaaDoorMgW
import Derived.Test.YtcbkgammlfjjoaaDoorWc
import Derived.Test.YtcbkgammlfjjoaaDoorSt1
namespace Go.Proofs.YtcbkgammlfjjoaaDoor
set_option linter.unusedVariables false
set_option linter.unusedSimpArgs false
open Go.RowKit Go.Proofs.YtcbkgammlfjjoaaDoorW.PrintWords Go.Proofs.YtcbkgammlfjjoaaDoorW.PrintLast Go.Proofs.YtcbkgammlfjjoaaDoorW.PrintMore
open Ieee

/-- the same float, or both none -/
def Eqv (a b : Nat) : Prop := a = b ∨ (nanB a = true ∧ nanB b = true)
theorem Eqv.refl (a : Nat) : Eqv a a := Or.inl rfl
theorem Eqv.none {a b : Nat} (h : Eqv a b) : nanB a = nanB b := by
  rcases h with rfl | ⟨h1, h2⟩
  · rfl
  · rw [h1, h2]
theorem same_of_eqv {a b : Nat} (h : Eqv a b) : sameF a b = true := by
  unfold sameF
  rcases h with rfl | ⟨h1, h2⟩
  · cases h : nanB a
    · simp [h]
    · simp [h]
  · rw [h1, h2]; rfl
theorem bits_nan (op : BinOp) {a b : Nat} (h : nanB a = true ∨ nanB b = true) : floatBits op .f64 a b = none := by
  unfold nanB at h
  unfold floatBits
  cases op <;> try rfl
  · show Ieee.double.add a b = _
    unfold Format.add
    cases h1 : Ieee.double.read a <;> cases h2 : Ieee.double.read b <;> simp [h1, h2, Datum.isNaN, Datum.sum] at h ⊢
  · show Ieee.double.sub a b = _
    unfold Format.sub
    cases h1 : Ieee.double.read a <;> cases h2 : Ieee.double.read b <;> simp [h1, h2, Datum.isNaN, Datum.sum, Datum.opposite] at h ⊢
  · show Ieee.double.mul a b = _
    unfold Format.mul
    cases h1 : Ieee.double.read a <;> cases h2 : Ieee.double.read b <;> simp [h1, h2, Datum.isNaN, Datum.product] at h ⊢
  · show Ieee.double.div a b = _
    unfold Format.div
    cases h1 : Ieee.double.read a <;> cases h2 : Ieee.double.read b <;> simp [h1, h2, Datum.isNaN, Datum.quotient] at h ⊢
theorem FR_eqv {op : BinOp} {x y x' y' r r' : Nat} (hx : Eqv x x') (hy : Eqv y y') (h : FR op x y r) (h' : FR op x' y' r') : Eqv r r' := by
  have both : floatBits op .f64 x y = floatBits op .f64 x' y' := by
    rcases hx with rfl | ⟨h1, h2⟩
    · rcases hy with rfl | ⟨h3, h4⟩
      · rfl
      · rw [bits_nan op (Or.inr h3), bits_nan op (Or.inr h4)]
    · rw [bits_nan op (Or.inl h1), bits_nan op (Or.inl h2)]
  rcases h.2 with h1 | ⟨h1, h2⟩
  · rcases h'.2 with h3 | ⟨h3, h4⟩
    · rw [← both, h1] at h3
      exact Or.inl (Option.some.inj h3)
    · rw [← both, h1] at h3; cases h3
  · rcases h'.2 with h3 | ⟨h3, h4⟩
    · rw [← both, h1] at h3; cases h3
    · exact Or.inr ⟨h2, h4⟩
theorem rnd_one (n : Nat) : rnd n 1 = n := by
  unfold rnd
  have : n % 1 = 0 := Nat.mod_one n
  rw [this, Nat.div_one]
  simp
/-- small whole numbers are exact -/
theorem read_foi_exact (k : Nat) (h0 : 0 < k) (h1 : k < 9007199254740992) : ∃ e : Nat, e ≤ 52 ∧ Ieee.double.read (floatOfInt .f64 (k : Int)) = .number false (k * 2 ^ e) (-(e : Int)) := by
  have hl : k.log2 < 53 := (Nat.log2_lt (by omega)).2 (by omega)
  have hlo : 2 ^ k.log2 ≤ k := Nat.log2_self_le (by omega)
  have hhi : k < 2 ^ (k.log2 + 1) := Nat.lt_log2_self
  obtain ⟨e, he⟩ : ∃ e : Nat, e + k.log2 = 52 := ⟨52 - k.log2, by omega⟩
  have hlast : lastP k 0 = -(e : Int) := by
    unfold lastP
    omega
  obtain ⟨n, hn⟩ : ∃ n, n = k * 2 ^ e := ⟨_, rfl⟩
  have hb1 : 4503599627370496 ≤ n := by
    rw [hn]
    have : 2 ^ k.log2 * 2 ^ e ≤ k * 2 ^ e := Nat.mul_le_mul_right _ hlo
    rw [← Nat.pow_add, show k.log2 + e = 52 from by omega] at this
    exact this
  have hb2 : n < 9007199254740992 := by
    rw [hn]
    have : k * 2 ^ e < 2 ^ (k.log2 + 1) * 2 ^ e := Nat.mul_lt_mul_of_pos_right hhi (Nat.pow_pos (by decide))
    rw [← Nat.pow_add, show k.log2 + 1 + e = 53 from by omega] at this
    exact this
  have hkept : kept k 0 = n := by
    rw [hn]
    unfold kept
    rw [hlast, show ((-(e : Int)) - 0).toNat = 0 from by omega, Nat.pow_zero, rnd_one, show (0 - (-(e : Int))).toNat = e from by omega]
  have hr : rung k 0 = (1074 - e) * 4503599627370496 + n := by
    unfold rung
    rw [if_neg (by omega), hkept, hlast, show ((-(e : Int)) + 1074).toNat = 1074 - e from by omega]
    omega
  have hw : floatOfInt .f64 (k : Int) = Ieee.double.word false (rung k 0) := by
    have : floatOfInt .f64 (k : Int) = Ieee.double.nearest (decide ((k : Int) < 0)) (k : Int).natAbs 0 := rfl
    rw [this, nearest_eq, decide_eq_false (by omega), Int.natAbs_natCast]
  refine ⟨e, by omega, ?_⟩
  rw [← hn]
  clear hn
  rw [hw, read_rung false (by omega), if_neg (by omega)]
  have e1 : rung k 0 % 4503599627370496 = n - 4503599627370496 := by omega
  have e2 : rung k 0 / 4503599627370496 = 1074 - e + 1 := by omega
  have e3 : 4503599627370496 + (n - 4503599627370496) = n := by omega
  have e4 : (-1074 : Int) + ((1074 - e + 1 - 1 : Nat) : Int) = -(e : Int) := by omega
  rw [e1, e2, e3, e4]
theorem read_one : Ieee.double.read 4607182418800017408 = .number false 4503599627370496 (-52) := by kernel_rfl
theorem pow_split (a b : Nat) : (2 : Nat) ^ (a + b) = 2 ^ a * 2 ^ b := Nat.pow_add 2 a b
/-- one more, counted by floats -/
theorem foi_succ (k : Nat) (h1 : k < 9007199254740991) : floatBits .add .f64 (floatOfInt .f64 (k : Int)) 4607182418800017408 = some (floatOfInt .f64 ((k + 1 : Nat) : Int)) := by
  by_cases h0 : k = 0
  · subst h0
    kernel_rfl
  · obtain ⟨e, he, hr⟩ := read_foi_exact k (by omega) (by omega)
    show Ieee.double.add (floatOfInt .f64 (k : Int)) 4607182418800017408 = _
    unfold Format.add
    rw [hr, read_one]
    have hbase : min (-(e : Int)) (-52) = -52 := by omega
    have hpow : k * 2 ^ e * 2 ^ (52 - e) = k * 4503599627370496 := by
      rw [Nat.mul_assoc, ← Nat.pow_add, show e + (52 - e) = 52 from by omega]
    have htot : signed false (k * 2 ^ e) (-(e : Int) - -52).toNat + signed false 4503599627370496 ((-52 : Int) - -52).toNat = (((k + 1) * 4503599627370496 : Nat) : Int) := by
      rw [signed_eq, signed_eq, show (-(e : Int) - -52).toNat = 52 - e from by omega, show ((-52 : Int) - -52).toNat = 0 from by decide]
      simp only [Bool.false_eq_true, if_false, Int.pow_zero]
      rw [two_nat, ← Int.natCast_mul, hpow]
      omega
    have hsum : Datum.sum (.number false (k * 2 ^ e) (-(e : Int))) (.number false 4503599627370496 (-52)) = some (.number false ((k + 1) * 4503599627370496) (-52)) := by
      unfold Datum.sum
      simp only [hbase, htot]
      have hne : ¬ ((((k + 1) * 4503599627370496 : Nat) : Int) = 0) := by omega
      have hnn : decide ((((k + 1) * 4503599627370496 : Nat) : Int) < 0) = false := decide_eq_false (by omega)
      rw [if_neg hne, hnn, Int.natAbs_natCast]
    rw [hsum]
    have hw1 : Ieee.double.write (.number false ((k + 1) * 4503599627370496) (-52)) = Ieee.double.nearest false ((k + 1) * 4503599627370496) (-52) := rfl
    have hw2 : floatOfInt .f64 ((k + 1 : Nat) : Int) = Ieee.double.nearest (decide (((k + 1 : Nat) : Int) < 0)) ((k + 1 : Nat) : Int).natAbs 0 := rfl
    show some (Ieee.double.write (.number false ((k + 1) * 4503599627370496) (-52))) = _
    rw [hw1, hw2, decide_eq_false (by omega), Int.natAbs_natCast, nearest_eq, nearest_eq]
    have hval : (k + 1) * 4503599627370496 * 2 ^ ((-52 : Int) + 3000).toNat = (k + 1) * 2 ^ ((0 : Int) + 3000).toNat := by
      obtain ⟨c, hc⟩ : ∃ c, c = ((-52 : Int) + 3000).toNat := ⟨_, rfl⟩
      rw [show ((0 : Int) + 3000).toNat = 52 + c from by omega, ← hc, Nat.pow_add, Nat.mul_assoc]
    have hrg : rung ((k + 1) * 4503599627370496) (-52) = rung (k + 1) 0 := Nat.le_antisymm (rung_mono (by decide) (by decide) (Nat.le_of_eq hval)) (rung_mono (by decide) (by decide) (Nat.le_of_eq hval.symm))
    rw [hrg]
end Go.Proofs.YtcbkgammlfjjoaaDoor
namespace Go.Proofs.YtcbkgammlfjjoaaDoor
set_option linter.unusedVariables false
set_option linter.unusedSimpArgs false
open Go.RowKit Go.Proofs.YtcbkgammlfjjoaaDoorW.PrintWords Go.Proofs.YtcbkgammlfjjoaaDoorW.PrintLast Go.Proofs.YtcbkgammlfjjoaaDoorW.PrintMore

/-- does a change count? -/
def cnt (net hor : Int) (c : S59) : Bool := decide (c.f0 ≤ hor) && (decide (net < 0) || decide (c.f1 = net))
/-- the times of those that count, of the first so many -/
def tms (x : WV) (net hor : Int) (i : Nat) : List Int := ((x.li.take i).filter (cnt net hor)).map (·.f0)
theorem tms_succ (x : WV) (net hor : Int) {i : Nat} (hi : i < x.li.length) : tms x net hor (i + 1) = if cnt net hor (cAt x i) = true then tms x net hor i ++ [(cAt x i).f0] else tms x net hor i := by
  unfold tms
  rw [List.take_succ_eq_append_getElem hi, List.filter_append, List.map_append]
  have : x.li[i] = cAt x i := by unfold cAt; rw [List.getD_eq_getElem?_getD, List.getElem?_eq_getElem hi]; rfl
  rw [this]
  by_cases h : cnt net hor (cAt x i) = true
  · rw [if_pos h]; simp [h]
  · rw [if_neg h]; simp [h]
theorem tms_length (x : WV) (net hor : Int) (i : Nat) : (tms x net hor i).length ≤ i := by
  unfold tms
  rw [List.length_map]
  refine Nat.le_trans (List.length_filter_le _ _) ?_
  rw [List.length_take]
  omega
/-- the gaps between times -/
def gaps : List Int → List Int
  | a :: b :: t => (b - a) :: gaps (b :: t)
  | _ => []
theorem gaps_length : ∀ l : List Int, (gaps l).length = l.length - 1
  | [] => rfl
  | [_] => rfl
  | a :: b :: t => by
    have := gaps_length (b :: t)
    simp only [gaps, List.length_cons] at this ⊢
    omega
theorem gaps_snoc (c : Int) : ∀ l : List Int, l ≠ [] → gaps (l ++ [c]) = gaps l ++ [c - l.getLastD 0]
  | [], h => absurd rfl h
  | [a], _ => rfl
  | a :: b :: t, _ => by
    have := gaps_snoc c (b :: t) (by simp)
    simp only [List.cons_append, gaps] at this ⊢
    rw [this]
    rfl
theorem gaps_at : ∀ (l : List Int) (i : Nat), i + 1 < l.length → (gaps l).getD i 0 = l.getD (i + 1) 0 - l.getD i 0
  | [], i, h => by simp at h
  | [_], i, h => by simp at h
  | a :: b :: t, 0, _ => rfl
  | a :: b :: t, i + 1, h => by
    have := gaps_at (b :: t) i (by simp only [List.length_cons] at h ⊢; omega)
    simp only [gaps, List.getD_cons_succ] at this ⊢
    exact this
def foi (q : Int) : Nat := floatOfInt .f64 q
/-- the sum of the first so many floats -/
def SumR (g : List Int) : Nat → Nat → Prop
  | 0, s => s = 0
  | i + 1, s => ∃ s0, SumR g i s0 ∧ FR .add s0 (foi (g.getD i 0)) s
def SqR (g : List Int) (m : Nat) : Nat → Nat → Prop
  | 0, s => s = 0
  | i + 1, s => ∃ s0 d q, SqR g m i s0 ∧ FR .sub (foi (g.getD i 0)) m d ∧ FR .mul d d q ∧ FR .add s0 q s
theorem SumR_eqv (g : List Int) : ∀ i s s', SumR g i s → SumR g i s' → Eqv s s'
  | 0, s, s', h, h' => by
    have e : s = 0 := h
    have e' : s' = 0 := h'
    rw [e, e']; exact Eqv.refl _
  | i + 1, s, s', ⟨a, h1, h2⟩, ⟨b, h3, h4⟩ => FR_eqv (SumR_eqv g i a b h1 h3) (Eqv.refl _) h2 h4
theorem SqR_eqv (g : List Int) {m m' : Nat} (hm : Eqv m m') : ∀ i s s', SqR g m i s → SqR g m' i s' → Eqv s s'
  | 0, s, s', h, h' => by
    have e : s = 0 := h
    have e' : s' = 0 := h'
    rw [e, e']; exact Eqv.refl _
  | i + 1, s, s', ⟨a, d, q, h1, h2, h3, h4⟩, ⟨a', d', q', k1, k2, k3, k4⟩ => by
    have hd := FR_eqv (Eqv.refl _) hm h2 k2
    exact FR_eqv (SqR_eqv g hm i a a' h1 k1) (FR_eqv hd hd h3 k3) h4 k4
theorem SumR_lt (g : List Int) : ∀ i s, SumR g i s → s < 18446744073709551616
  | 0, s, h => by have e : s = 0 := h; omega
  | i + 1, s, ⟨a, h1, h2⟩ => h2.1
theorem SqR_lt (g : List Int) (m : Nat) : ∀ i s, SqR g m i s → s < 18446744073709551616
  | 0, s, h => by have e : s = 0 := h; omega
  | i + 1, s, ⟨a, d, q, h1, h2, h3, h4⟩ => h4.1
/-- the least and the greatest of the first so many -/
def minF (s x : Nat) : Nat := if ltB x s then x else s
def maxF (s x : Nat) : Nat := if ltB s x then x else s
def leastF (g : List Int) : Nat → Nat
  | 0 => 9218868437227405312
  | i + 1 => minF (leastF g i) (foi (g.getD i 0))
def mostF (g : List Int) : Nat → Nat
  | 0 => 18442240474082181120
  | i + 1 => maxF (mostF g i) (foi (g.getD i 0))
/-- what Of answers of gaps -/
structure OfR (T : List Int) (hor : Int) (vn : Int) (vr vm vs va vb : Nat) : Prop where
  n : vn = T.length
  rate : FR .quo (foi T.length) (foi hor) vr
  mean : ∃ sum, SumR (gaps T) (gaps T).length sum ∧ FR .quo sum (foi (gaps T).length) vm
  spread : ∃ sq, SqR (gaps T) vm (gaps T).length sq ∧ FR .quo sq (foi (gaps T).length) vs
  least : va = leastF (gaps T) (gaps T).length
  most : vb = mostF (gaps T) (gaps T).length
theorem OfR.same {T : List Int} {hor n n' : Int} {r m s a b r' m' s' a' b' : Nat} (h : OfR T hor n r m s a b) (h' : OfR T hor n' r' m' s' a' b') : n = n' ∧ Eqv r r' ∧ Eqv m m' ∧ Eqv s s' ∧ a = a' ∧ b = b' := by
  obtain ⟨u, hu, hu2⟩ := h.mean
  obtain ⟨u', hv, hv2⟩ := h'.mean
  obtain ⟨q, hq, hq2⟩ := h.spread
  obtain ⟨q', hp, hp2⟩ := h'.spread
  have hm := FR_eqv (SumR_eqv _ _ _ _ hu hv) (Eqv.refl _) hu2 hv2
  exact ⟨h.n.trans h'.n.symm, FR_eqv (Eqv.refl _) (Eqv.refl _) h.rate h'.rate, hm, FR_eqv (SqR_eqv _ hm _ _ _ hq hp) (Eqv.refl _) hq2 hp2, h.least.trans h'.least.symm, h.most.trans h'.most.symm⟩
end Go.Proofs.YtcbkgammlfjjoaaDoor
namespace Go.Proofs.YtcbkgammlfjjoaaDoor
set_option linter.unusedVariables false
set_option linter.unusedSimpArgs false
open Go.RowKit Go.Proofs.YtcbkgammlfjjoaaDoorW.PrintWords Go.Proofs.YtcbkgammlfjjoaaDoorW.PrintLast Go.Proofs.YtcbkgammlfjjoaaDoorW.PrintMore
open Ieee

theorem rval_succ {r : Nat} (h : r + 1 ≤ 9218868437227405312) : rval r < rval (r + 1) := by
  unfold rval
  by_cases h1 : r + 1 < 4503599627370496
  · rw [if_pos (show r < 4503599627370496 by omega), if_pos h1]; omega
  · by_cases h2 : r < 4503599627370496
    · obtain rfl : r = 4503599627370495 := by omega
      rw [if_pos (by decide), if_neg (by decide), if_pos (by decide)]; decide
    · rw [if_neg h2, if_pos (show r < 9218868437227405312 by omega), if_neg h1]
      obtain ⟨q, hq⟩ : ∃ q, q = r / 4503599627370496 := ⟨_, rfl⟩
      obtain ⟨m, hm⟩ : ∃ m, m = r % 4503599627370496 := ⟨_, rfl⟩
      by_cases h3 : r + 1 < 9218868437227405312
      · rw [if_pos h3]
        by_cases h4 : m = 4503599627370495
        · have e1 : (r + 1) % 4503599627370496 = 0 := by omega
          have e2 : (r + 1) / 4503599627370496 - 1 = (q - 1) + 1 := by omega
          rw [e1, e2, ← hq, ← hm, h4, Int.pow_succ, two_nat]
          have hp : 0 < 2 ^ (q - 1) := Nat.pow_pos (by decide)
          generalize 2 ^ (q - 1) = p at hp ⊢
          norm_cast
          omega
        · have e1 : (r + 1) % 4503599627370496 = m + 1 := by omega
          have e2 : (r + 1) / 4503599627370496 - 1 = q - 1 := by omega
          rw [e1, e2, ← hq, ← hm, two_nat]
          have hp : 0 < 2 ^ (q - 1) := Nat.pow_pos (by decide)
          generalize 2 ^ (q - 1) = p at hp ⊢
          rw [← Int.natCast_mul, ← Int.natCast_mul]
          have : (4503599627370496 + m) * p < (4503599627370496 + (m + 1)) * p := Nat.mul_lt_mul_of_pos_right (by omega) hp
          omega
      · rw [if_neg h3]
        exact big_lt (by omega) (by omega)
theorem rval_inj {r t : Nat} (hr : r ≤ 9218868437227405312) (ht : t ≤ 9218868437227405312) (h : rval r = rval t) : r = t := by
  rcases Nat.lt_trichotomy r t with hl | hl | hl
  · exfalso
    have h1 := rval_succ (r := r) (by omega)
    have h2 := rval_mono (r := r + 1) (t := t) hl ht
    omega
  · exact hl
  · exfalso
    have h1 := rval_succ (r := t) (by omega)
    have h2 := rval_mono (r := t + 1) (t := r) hl hr
    omega
/-- floats that are 0 or more -/
def Pos (b : Nat) : Prop := b ≤ 9218868437227405312
theorem word_false {r : Nat} (h : r ≤ 9218868437227405312) : Ieee.double.word false r = r := by
  unfold Format.word
  simp
theorem Pos.ky {b : Nat} (h : Pos b) : Proofs.YtcbkgammlfjjoaaDoor.ky b = rval b ∧ nanB b = false := by
  have := read_word false h
  rw [word_false h] at this
  refine ⟨?_, this.2⟩
  unfold Proofs.YtcbkgammlfjjoaaDoor.ky
  rw [this.1]
  simp
theorem foi_pos {q : Int} (h : 0 ≤ q) : Pos (foi q) := by
  have : foi q = Ieee.double.nearest (decide (q < 0)) q.natAbs 0 := rfl
  rw [this, nearest_eq, decide_eq_false (by omega), word_false (rung_le _ _)]
  exact rung_le _ _
theorem Pos.sign {b : Nat} (h : Pos b) : (Ieee.double.read b).neg = false := by
  have h' : b ≤ 9218868437227405312 := h
  rw [read_sign (by omega)]
  exact decide_eq_false (by omega)
theorem pos_least (g : List Int) : ∀ i, (∀ x ∈ g, 0 ≤ x) → Pos (leastF g i)
  | 0, _ => Nat.le_refl _
  | i + 1, h => by
    unfold leastF minF
    split
    · exact foi_pos (by
        rcases Nat.lt_or_ge i g.length with hi | hi
        · rw [List.getD_eq_getElem?_getD, List.getElem?_eq_getElem hi]; exact h _ (List.getElem_mem hi)
        · rw [List.getD_eq_getElem?_getD, List.getElem?_eq_none hi]; decide)
    · exact pos_least g i h
theorem pos_most (g : List Int) : ∀ i, (∀ x ∈ g, 0 ≤ x) → mostF g i = 18442240474082181120 ∨ Pos (mostF g i)
  | 0, _ => Or.inl rfl
  | i + 1, h => by
    unfold mostF maxF
    split
    · exact Or.inr (foi_pos (by
        rcases Nat.lt_or_ge i g.length with hi | hi
        · rw [List.getD_eq_getElem?_getD, List.getElem?_eq_getElem hi]; exact h _ (List.getElem_mem hi)
        · rw [List.getD_eq_getElem?_getD, List.getElem?_eq_none hi]; decide))
    · exact pos_most g i h
theorem min_step {P : Program} (w : World) (ts : Array TypeId) (t : TypeId) {s x : Nat} (hs : Pos s) (hx : Pos x) : (Builtin.min_ ts t #[.float .f64 s, .float .f64 x]).run P w = .ok (.float .f64 (minF s x)) w := by
  have ho := order_ky hs.ky.2 hx.ky.2
  have hk1 := hs.ky.1
  have hk2 := hx.ky.1
  have hl : ltB x s = decide (ky x < ky s) := by unfold ltB; rw [hx.ky.2, hs.ky.2]; simp
  have e : Builtin.min_ ts t #[.float .f64 s, .float .f64 x] = Builtin.min2 (.float .f64 s) (.float .f64 x) := by
    simp [Builtin.min_]
  rw [e]
  unfold Builtin.min2 minF
  simp only
  rw [show FloatKind.f64.format = Ieee.double from rfl, ho, hl]
  rcases Int.lt_trichotomy (ky s) (ky x) with h | h | h
  · rw [fcmp_lt.2 h, decide_eq_false (by omega)]
    rfl
  · rw [fcmp_self.2 h, decide_eq_false (by omega)]
    have : s = x := rval_inj hs hx (by rw [← hk1, ← hk2]; exact h)
    subst this
    simp
  · rw [fcmp_gt.2 h, decide_eq_true h]
    rfl
theorem max_step {P : Program} (w : World) (ts : Array TypeId) (t : TypeId) {s x : Nat} (hs : s = 18442240474082181120 ∨ Pos s) (hx : Pos x) : (Builtin.max_ ts t #[.float .f64 s, .float .f64 x]).run P w = .ok (.float .f64 (maxF s x)) w := by
  have hn : nanB s = false := by
    rcases hs with rfl | h
    · kernel_rfl
    · exact h.ky.2
  have ho := order_ky hn hx.ky.2
  have hk2 := hx.ky.1
  have hl : ltB s x = decide (ky s < ky x) := by unfold ltB; rw [hx.ky.2, hn]; simp
  have e : Builtin.max_ ts t #[.float .f64 s, .float .f64 x] = Builtin.max2 (.float .f64 s) (.float .f64 x) := by
    simp [Builtin.max_]
  rw [e]
  unfold Builtin.max2 maxF
  simp only
  rw [show FloatKind.f64.format = Ieee.double from rfl, ho, hl]
  rcases Int.lt_trichotomy (ky s) (ky x) with h | h | h
  · rw [fcmp_lt.2 h, decide_eq_true h]
    rfl
  · rw [fcmp_self.2 h, decide_eq_false (by omega)]
    rcases hs with rfl | hp
    · exfalso
      have h1 : ky 18442240474082181120 = - big := by
        have := (ky_inf true).1
        rw [show Ieee.double.word true 9218868437227405312 = 18442240474082181120 from by decide] at this
        rw [this]; simp
      have h2 := rval_nonneg x
      have h3 := big_pos
      rw [h1, hk2] at h
      omega
    · have : s = x := rval_inj hp hx (by rw [← hp.ky.1, ← hk2]; exact h)
      subst this
      simp
  · rw [fcmp_gt.2 h, decide_eq_false (by omega)]
    rfl
end Go.Proofs.YtcbkgammlfjjoaaDoor
namespace Go.Proofs.YtcbkgammlfjjoaaDoor
set_option linter.unusedVariables false
set_option linter.unusedSimpArgs false
open Go.RowKit Go.Proofs.YtcbkgammlfjjoaaDoorW.PrintWords Go.Proofs.YtcbkgammlfjjoaaDoorW.PrintLast Go.Proofs.YtcbkgammlfjjoaaDoorW.PrintMore

theorem Sorted0.pw {l : List S59} (h : Sorted0 l) : l.Pairwise (fun a b => a.f0 ≤ b.f0) := by
  rw [List.pairwise_iff_getElem]
  intro i j hi hj hij
  have := h i j hij hj
  rwa [List.getD_eq_getElem?_getD, List.getElem?_eq_getElem hi, List.getD_eq_getElem?_getD, List.getElem?_eq_getElem hj] at this
theorem tms_pw {x : WV} (h : May x) (net hor : Int) (i : Nat) : (tms x net hor i).Pairwise (· ≤ ·) := by
  unfold tms
  rw [List.pairwise_map]
  exact ((h.sorted.pw.sublist (List.take_sublist _ _)).filter _)
theorem gaps_pos : ∀ l : List Int, l.Pairwise (· ≤ ·) → ∀ q ∈ gaps l, 0 ≤ q
  | [], _, q, hq => by cases hq
  | [_], _, q, hq => by cases hq
  | a :: b :: t, h, q, hq => by
    have h1 := List.pairwise_cons.1 h
    rcases List.mem_cons.1 hq with rfl | hq
    · have := h1.1 b List.mem_cons_self
      omega
    · exact gaps_pos (b :: t) h1.2 q hq
theorem tms_gaps {x : WV} (h : May x) (net hor : Int) (i : Nat) : ∀ q ∈ gaps (tms x net hor i), 0 ≤ q := gaps_pos _ (tms_pw h net hor i)
theorem getD_foi (g : List Int) {k : Nat} (hk : k < g.length) : (g.map foi).getD k 0 = foi (g.getD k 0) := by
  rw [List.getD_eq_getElem?_getD, List.getD_eq_getElem?_getD, List.getElem?_map, List.getElem?_eq_getElem hk]
  rfl
theorem foi_at_pos {g : List Int} (h : ∀ q ∈ g, 0 ≤ q) (k : Nat) : Pos (foi (g.getD k 0)) := by
  refine foi_pos ?_
  rcases Nat.lt_or_ge k g.length with hk | hk
  · rw [List.getD_eq_getElem?_getD, List.getElem?_eq_getElem hk]
    exact h _ (List.getElem_mem hk)
  · rw [List.getD_eq_getElem?_getD, List.getElem?_eq_none hk]
    decide
end Go.Proofs.YtcbkgammlfjjoaaDoor
namespace Go.Proofs.YtcbkgammlfjjoaaDoor
set_option linter.unusedVariables false
set_option linter.unusedSimpArgs false
open Go.RowKit Go.Proofs.YtcbkgammlfjjoaaDoorW.PrintWords Go.Proofs.YtcbkgammlfjjoaaDoorW.PrintLast Go.Proofs.YtcbkgammlfjjoaaDoorW.PrintMore
open Ieee

/-- a float that is a whole number, not below 0 -/
def Num (b : Nat) : Prop := ∃ m i, Ieee.double.read b = .number false m i
theorem foi_number {q : Int} (h0 : 0 ≤ q) (h1 : q ≤ 9223372036854775807) : ∃ m i, Ieee.double.read (foi q) = .number false m i ∧ (q ≠ 0 → m ≠ 0) := by
  by_cases hq : q = 0
  · subst hq
    have h : Ieee.double.read (foi 0) = .number false 0 (-1074) := by kernel_rfl
    exact ⟨0, _, h, fun h => absurd rfl h⟩
  · have hl : q.natAbs.log2 < 64 := (Nat.log2_lt (by omega)).2 (by omega)
    obtain ⟨n, i, h, h2, -⟩ := read_nearest false (m := q.natAbs) (p := 0) (by omega) (by omega) (by omega)
    have e : foi q = Ieee.double.nearest (decide (q < 0)) q.natAbs 0 := rfl
    rw [decide_eq_false (by omega)] at e
    exact ⟨n, i, by rw [e]; exact h, fun _ => by omega⟩
theorem foi_num {q : Int} (h0 : 0 ≤ q) (h1 : q ≤ 9223372036854775807) : Num (foi q) := by
  obtain ⟨m, i, h, -⟩ := foi_number h0 h1
  exact ⟨m, i, h⟩
theorem sum_nn {d : Datum} (hd : d.isNaN = false) {s : Bool} {m : Nat} {i : Int} : ∃ r, d.sum (.number s m i) = some r ∧ r.isNaN = false := by
  cases d with
  | nan => simp [Datum.isNaN] at hd
  | infinity t => exact ⟨_, rfl, rfl⟩
  | number t n j =>
    simp only [Datum.sum]
    split <;> exact ⟨_, rfl, rfl⟩
theorem sum_nn2 {d : Datum} (hd : d.isNaN = false) {s : Bool} {m : Nat} {i : Int} : ∃ r, Datum.sum (.number s m i) d = some r ∧ r.isNaN = false := by
  cases d with
  | nan => simp [Datum.isNaN] at hd
  | infinity t => exact ⟨_, rfl, rfl⟩
  | number t n j =>
    simp only [Datum.sum]
    split <;> exact ⟨_, rfl, rfl⟩
theorem add_some {a b : Nat} (ha : nanB a = false) (hb : Num b) : ∃ r, floatBits .add .f64 a b = some r ∧ nanB r = false := by
  obtain ⟨m, i, hb⟩ := hb
  obtain ⟨r, hr, hn⟩ := sum_nn (d := Ieee.double.read a) ha (s := false) (m := m) (i := i)
  refine ⟨Ieee.double.write r, ?_, write_not_nan hn⟩
  show Ieee.double.add a b = _
  unfold Format.add
  rw [hb, hr]
  rfl
theorem sub_some {a b : Nat} (ha : Num a) (hb : nanB b = false) : ∃ r, floatBits .sub .f64 a b = some r ∧ nanB r = false := by
  obtain ⟨m, i, ha⟩ := ha
  have hb2 : (Ieee.double.read b).opposite.isNaN = false := by
    have : (Ieee.double.read b).isNaN = false := hb
    revert this
    cases Ieee.double.read b <;> simp [Datum.opposite, Datum.isNaN]
  obtain ⟨r, hr, hn⟩ := sum_nn2 (d := (Ieee.double.read b).opposite) hb2 (s := false) (m := m) (i := i)
  refine ⟨Ieee.double.write r, ?_, write_not_nan hn⟩
  show Ieee.double.sub a b = _
  unfold Format.sub
  rw [ha, hr]
  rfl
theorem quo_nn {a b r : Nat} (ha : nanB a = false) {m : Nat} {i : Int} (hb : Ieee.double.read b = .number false m i) (hm : m ≠ 0) (h : FR .quo a b r) : nanB r = false := by
  have : ∃ r, floatBits .quo .f64 a b = some r := by
    have ha' : (Ieee.double.read a).isNaN = false := ha
    show ∃ r, Ieee.double.div a b = some r
    unfold Format.div
    rw [hb]
    revert ha'
    cases Ieee.double.read a with
    | nan => intro h; simp [Datum.isNaN] at h
    | infinity t => intro _; exact ⟨_, rfl⟩
    | number t n j =>
      intro _
      simp only [Datum.quotient]
      rw [if_neg hm]
      exact ⟨_, rfl⟩
  obtain ⟨r', hr'⟩ := this
  rcases h.2 with h2 | ⟨h2, _⟩
  · exact div_not_nan h2
  · rw [hr'] at h2; cases h2
theorem sumR_nn {g : List Int} (hg : ∀ q ∈ g, 0 ≤ q ∧ q ≤ 9223372036854775807) : ∀ i s, SumR g i s → nanB s = false
  | 0, s, h => by
    have e : s = 0 := h
    have h0 : nanB 0 = false := by kernel_rfl
    rw [e]; exact h0
  | i + 1, s, ⟨a, h1, h2⟩ => by
    have hn : Num (foi (g.getD i 0)) := by
      rcases Nat.lt_or_ge i g.length with hi | hi
      · rw [List.getD_eq_getElem?_getD, List.getElem?_eq_getElem hi]
        have := hg _ (List.getElem_mem hi)
        exact foi_num this.1 this.2
      · rw [List.getD_eq_getElem?_getD, List.getElem?_eq_none hi]
        exact foi_num (by decide) (by decide)
    obtain ⟨r, hr, hnn⟩ := add_some (sumR_nn hg i a h1) hn
    rcases h2.2 with h2 | ⟨h2, _⟩
    · rw [hr] at h2
      rw [← Option.some.inj h2]; exact hnn
    · rw [hr] at h2; cases h2
theorem mean_nn {g : List Int} (hg : ∀ q ∈ g, 0 ≤ q ∧ q ≤ 9223372036854775807) {k s m n : Nat} (hs : SumR g k s) (hn0 : 0 < n) (hn1 : n < 9223372036854775807) (h : FR .quo s (foi n) m) : nanB m = false := by
  obtain ⟨a, i, hr, hne⟩ := foi_number (q := (n : Int)) (by omega) (by omega)
  exact quo_nn (sumR_nn hg k s hs) hr (hne (by omega)) h
/-- a gap less the mean, in memory -/
theorem run_sub {g q m : Nat} (t : TypeId) (h : floatBits .sub .f64 q m = some g) (P : Program) (W : World) : (binOp .sub t (.float .f64 q) (.float .f64 m)).run P W = .ok (.float .f64 g) W := run_float_arith W .sub t .f64 q m g h
end Go.Proofs.YtcbkgammlfjjoaaDoor
