/- Floats as whole numbers: the plain laws on how they stand. Floats as whole numbers: rounding, and that it turns no order. Floats: minus, without a sign, infinities, thousandths: plain laws. Floats: quotients, minus signs and doubling: plain laws. -/
import Derived.Laws.FloatArith
namespace Go.Proofs.YtcbkgammlfjjoaaDoor
set_option linter.unusedVariables false
set_option linter.unusedSimpArgs false
open Ieee

theorem dl : Ieee.double.leastPlace = -1074 := by decide
theorem db : Ieee.double.binade = 4503599627370496 := by decide
theorem di : Ieee.double.infRung = 9218868437227405312 := by decide
theorem dsw : Ieee.double.signWeight = 9223372036854775808 := by decide

theorem signed_eq (s : Bool) (m k : Nat) : signed s m k = (if s then -1 else 1) * ((m : Int) * 2 ^ k) := by
  unfold signed
  cases s <;> simp [Nat.shiftLeft_eq]
/-- more than any number -/
def big : Int := 2 ^ 2100
theorem pow_le_of {j k K : Nat} (hk : k ≤ K) (hj : 53 + K ≤ j) {m : Nat} (hm : m < 9007199254740992) : m * 2 ^ k < 2 ^ j := by
  have h1 : (2 : Nat) ^ k ≤ 2 ^ K := Nat.pow_le_pow_right (by decide) hk
  have h2 : m * 2 ^ k < 9007199254740992 * 2 ^ K := Nat.lt_of_le_of_lt (Nat.mul_le_mul_left m h1) (Nat.mul_lt_mul_of_pos_right hm (Nat.two_pow_pos _))
  have h3 : 9007199254740992 * 2 ^ K ≤ 2 ^ j := by
    rw [show (9007199254740992 : Nat) = 2 ^ 53 from by decide, ← Nat.pow_add]
    exact Nat.pow_le_pow_right (by decide) hj
  exact Nat.lt_of_lt_of_le h2 h3
theorem big_lt {m k : Nat} (hm : m < 9007199254740992) (hk : k ≤ 2045) : (m : Int) * 2 ^ k < big := by
  have h4 := pow_le_of (j := 2100) hk (by decide) hm
  unfold big
  generalize 2100 = j at h4 ⊢
  have := Int.ofNat_lt.2 h4
  rw [Int.natCast_mul, Int.natCast_pow, Int.natCast_pow] at this
  exact this
theorem big_pos : 0 < big := by
  unfold big
  exact Int.pow_pos (by decide)
attribute [irreducible] big

/-- a datum as a whole number of the least place -/
def dky : Datum → Int
  | .number s m i => (if s then -1 else 1) * ((m : Int) * 2 ^ (i + 1074).toNat)
  | .infinity s => (if s then -1 else 1) * big
  | .nan .. => 0
def ky (b : Nat) : Int := dky (Ieee.double.read b)
def nanB (b : Nat) : Bool := (Ieee.double.read b).isNaN

theorem read_number {b : Nat} {s : Bool} {m : Nat} {i : Int} (h : Ieee.double.read b = .number s m i) : m < 9007199254740992 ∧ -1074 ≤ i ∧ i ≤ 971 := by
  unfold Format.read at h
  rw [dl, db, di, dsw] at h
  dsimp only at h
  have h0 : b % 9223372036854775808 < 9223372036854775808 := Nat.mod_lt _ (by decide)
  generalize b % 9223372036854775808 = r at h h0
  split at h
  · injection h with h1 h2 h3
    omega
  · split at h
    · injection h with h1 h2 h3
      omega
    · split at h <;> cases h

theorem fcmp_eq (a b a' b' : Int) (h1 : a < b ↔ a' < b') (h2 : a = b ↔ a' = b') : compare a b = compare a' b' := by
  show compareOfLessAndEq a b = compareOfLessAndEq a' b'
  unfold compareOfLessAndEq
  simp only [h1, h2]
theorem fcmp_lt {a b : Int} : compare a b = .lt ↔ a < b := by
  show compareOfLessAndEq a b = .lt ↔ _
  unfold compareOfLessAndEq
  split
  · simp [*]
  · split <;> simp [*]
theorem fcmp_gt {a b : Int} : compare a b = .gt ↔ b < a := by
  show compareOfLessAndEq a b = .gt ↔ _
  unfold compareOfLessAndEq
  split
  · simp; omega
  · split
    · simp; omega
    · simp; omega
theorem fcmp_self {a b : Int} : compare a b = .eq ↔ a = b := by
  show compareOfLessAndEq a b = .eq ↔ _
  unfold compareOfLessAndEq
  split
  · simp; omega
  · split <;> simp [*]

theorem order_ky {a b : Nat} (ha : nanB a = false) (hb : nanB b = false) : Ieee.double.order a b = some (compare (ky a) (ky b)) := by
  unfold nanB at ha hb
  unfold Format.order ky
  have ra := @read_number a
  have rb := @read_number b
  generalize Ieee.double.read a = x at ha ra
  generalize Ieee.double.read b = y at hb rb
  have hbp := big_pos
  cases x with
  | nan s f => cases ha
  | infinity s =>
    cases y with
    | nan t f => cases hb
    | infinity t =>
      cases s <;> cases t
      · show some (compare 0 0) = some (compare (1 * big) (1 * big))
        rw [fcmp_self.2 rfl]; rfl
      · show some (compare 1 0) = some (compare (1 * big) (-1 * big))
        rw [fcmp_gt.2 (by omega)]; rfl
      · show some (compare 0 1) = some (compare (-1 * big) (1 * big))
        rw [fcmp_lt.2 (by omega)]; rfl
      · show some (compare 1 1) = some (compare (-1 * big) (-1 * big))
        rw [fcmp_self.2 rfl]; rfl
    | number t n j =>
      have h1 := rb rfl
      have h2 := big_lt (k := (j + 1074).toNat) h1.1 (by omega)
      have h3 : (0 : Int) ≤ (n : Int) * 2 ^ (j + 1074).toNat := Int.mul_nonneg (by omega) (Int.le_of_lt (Int.pow_pos (by decide)))
      show some (if s then Ordering.lt else .gt) = some (compare ((if s then -1 else 1) * big) ((if t then -1 else 1) * ((n : Int) * 2 ^ (j + 1074).toNat)))
      generalize (n : Int) * 2 ^ (j + 1074).toNat = z at h2 h3
      cases s <;> cases t <;> simp only [Bool.false_eq_true, if_true, if_false]
      · rw [fcmp_gt.2 (by omega)]
      · rw [fcmp_gt.2 (by omega)]
      · rw [fcmp_lt.2 (by omega)]
      · rw [fcmp_lt.2 (by omega)]
  | number s m i =>
    have g1 := ra rfl
    have g2 := big_lt (k := (i + 1074).toNat) g1.1 (by omega)
    have g3 : (0 : Int) ≤ (m : Int) * 2 ^ (i + 1074).toNat := Int.mul_nonneg (by omega) (Int.le_of_lt (Int.pow_pos (by decide)))
    cases y with
    | nan t f => cases hb
    | infinity t =>
      show some (if t then Ordering.gt else .lt) = some (compare ((if s then -1 else 1) * ((m : Int) * 2 ^ (i + 1074).toNat)) ((if t then -1 else 1) * big))
      generalize (m : Int) * 2 ^ (i + 1074).toNat = z at g2 g3
      cases s <;> cases t <;> simp only [Bool.false_eq_true, if_true, if_false]
      · rw [fcmp_lt.2 (by omega)]
      · rw [fcmp_gt.2 (by omega)]
      · rw [fcmp_lt.2 (by omega)]
      · rw [fcmp_gt.2 (by omega)]
    | number t n j =>
      have h1 := rb rfl
      show some (compare (signed s m (i - min i j).toNat) (signed t n (j - min i j).toNat)) = some (compare ((if s then -1 else 1) * ((m : Int) * 2 ^ (i + 1074).toNat)) ((if t then -1 else 1) * ((n : Int) * 2 ^ (j + 1074).toNat)))
      rw [signed_eq, signed_eq]
      have e1 : (i + 1074).toNat = (i - min i j).toNat + (min i j + 1074).toNat := by omega
      have e2 : (j + 1074).toNat = (j - min i j).toNat + (min i j + 1074).toNat := by omega
      rw [e1, e2, Int.pow_add, Int.pow_add]
      have hc : (0 : Int) < 2 ^ (min i j + 1074).toNat := Int.pow_pos (by decide)
      generalize (2 : Int) ^ (min i j + 1074).toNat = c at hc
      generalize (2 : Int) ^ (i - min i j).toNat = p
      generalize (2 : Int) ^ (j - min i j).toNat = q
      generalize (if s = true then (-1 : Int) else 1) = u
      generalize (if t = true then (-1 : Int) else 1) = v
      congr 1
      have f1 : u * (↑m * (p * c)) = (u * (↑m * p)) * c := by ac_rfl
      have f2 : v * (↑n * (q * c)) = (v * (↑n * q)) * c := by ac_rfl
      rw [f1, f2]
      refine fcmp_eq _ _ _ _ ⟨fun h => Int.mul_lt_mul_of_pos_right h hc, fun h => Int.lt_of_mul_lt_mul_right h (Int.le_of_lt hc)⟩ ⟨fun h => by rw [h], fun h => Int.eq_of_mul_eq_mul_right (Int.ne_of_gt hc) h⟩
theorem order_nan {a b : Nat} (h : nanB a = true ∨ nanB b = true) : Ieee.double.order a b = none := by
  unfold nanB at h
  unfold Format.order
  generalize Ieee.double.read a = x at h
  generalize Ieee.double.read b = y at h
  rcases h with h | h
  · cases x <;> first | (cases h; done) | (cases y <;> rfl)
  · cases y <;> first | (cases h; done) | (cases x <;> rfl)
/-- the tests, plainly -/
def ltB (a b : Nat) : Bool := !nanB a && (!nanB b && decide (ky a < ky b))
def eqB (a b : Nat) : Bool := !nanB a && (!nanB b && decide (ky a = ky b))
theorem order_lt (a b : Nat) : (Ieee.double.order a b == some .lt) = ltB a b := by
  unfold ltB
  cases ha : nanB a
  · cases hb : nanB b
    · rw [order_ky ha hb, Bool.eq_iff_iff]
      simp [fcmp_lt]
    · rw [order_nan (Or.inr hb)]; rfl
  · rw [order_nan (Or.inl ha)]; rfl
theorem order_gt (a b : Nat) : (Ieee.double.order a b == some .gt) = ltB b a := by
  unfold ltB
  cases ha : nanB a
  · cases hb : nanB b
    · rw [order_ky ha hb, Bool.eq_iff_iff]
      simp [fcmp_gt]
    · rw [order_nan (Or.inr hb)]; rfl
  · rw [order_nan (Or.inl ha)]; simp
theorem order_eq (a b : Nat) : (Ieee.double.order a b == some .eq) = eqB a b := by
  unfold eqB
  cases ha : nanB a
  · cases hb : nanB b
    · rw [order_ky ha hb, Bool.eq_iff_iff]
      simp [fcmp_self]
    · rw [order_nan (Or.inr hb)]; rfl
  · rw [order_nan (Or.inl ha)]; rfl
theorem order_ne (a b : Nat) : (Ieee.double.order a b != some .eq) = !eqB a b := by
  rw [← order_eq]; rfl
theorem eqB_self (a : Nat) : eqB a a = !nanB a := by
  unfold eqB
  cases nanB a <;> simp
/-- a word's kind -/
theorem read_sign {b : Nat} (h : b < 18446744073709551616) : (Ieee.double.read b).neg = decide (9223372036854775808 ≤ b) := by
  have e : (b / 9223372036854775808 % 2 == 1) = decide (9223372036854775808 ≤ b) := by
    rw [Bool.eq_iff_iff]; simp; omega
  unfold Format.read
  rw [dl, db, di, dsw]
  dsimp only
  rw [e]
  split
  · rfl
  · split
    · rfl
    · split <;> rfl
theorem ky_zero {b : Nat} (h : b < 18446744073709551616) (hn : nanB b = false) (h0 : ky b = 0) : b = 0 ∨ b = 9223372036854775808 := by
  unfold ky at h0
  unfold nanB at hn
  have hbp := big_pos
  have hr : Ieee.double.read b = Ieee.double.read b := rfl
  conv at hr => rhs; unfold Format.read
  rw [dl, db, di, dsw] at hr
  dsimp only at hr
  split at hr
  · rename_i hlt
    rw [hr] at h0
    simp only [dky, show ((-1074 : Int) + 1074).toNat = 0 from rfl, Int.pow_zero, Int.mul_one] at h0
    have : b % 9223372036854775808 = 0 := by
      split at h0 <;> omega
    omega
  · split at hr
    · rename_i h1 h2
      rw [hr] at h0
      simp only [dky] at h0
      exfalso
      have hp : (0 : Int) < 2 ^ ((-1074 : Int) + ((b % 9223372036854775808 / 4503599627370496 - 1 : Nat) : Int) + 1074).toNat := Int.pow_pos (by decide)
      generalize (2 : Int) ^ ((-1074 : Int) + ((b % 9223372036854775808 / 4503599627370496 - 1 : Nat) : Int) + 1074).toNat = z at h0 hp
      generalize hM : (((4503599627370496 + b % 9223372036854775808 % 4503599627370496 : Nat)) : Int) = M at h0
      have hM2 : 0 < M := by omega
      have := Int.mul_pos hM2 hp
      generalize M * z = y at h0 this
      split at h0 <;> omega
    · split at hr
      · rw [hr] at h0
        simp only [dky] at h0
        exfalso
        split at h0 <;> omega
      · rw [hr] at hn
        cases hn
theorem ky_sign {b : Nat} (h : b < 18446744073709551616) (hn : nanB b = false) : (9223372036854775808 ≤ b → ky b ≤ 0) ∧ (b < 9223372036854775808 → 0 ≤ ky b) := by
  have hs := read_sign h
  unfold ky
  unfold nanB at hn
  have hbp := big_pos
  generalize Ieee.double.read b = x at hs hn
  cases x with
  | nan s f => cases hn
  | infinity s =>
    cases s
    · have : ¬ 9223372036854775808 ≤ b := by simpa [Datum.neg] using hs
      exact ⟨fun hc => absurd hc this, fun _ => by simp only [dky]; simp; omega⟩
    · have : 9223372036854775808 ≤ b := by simpa [Datum.neg] using hs
      exact ⟨fun _ => by simp only [dky]; simp; omega, fun hc => by omega⟩
  | number s m i =>
    have h3 : (0 : Int) ≤ (m : Int) * 2 ^ (i + 1074).toNat := Int.mul_nonneg (by omega) (Int.le_of_lt (Int.pow_pos (by decide)))
    cases s
    · have : ¬ 9223372036854775808 ≤ b := by simpa [Datum.neg] using hs
      exact ⟨fun hc => absurd hc this, fun _ => by simp only [dky]; generalize (m : Int) * 2 ^ (i + 1074).toNat = z at h3; simp; omega⟩
    · have : 9223372036854775808 ≤ b := by simpa [Datum.neg] using hs
      exact ⟨fun _ => by simp only [dky]; generalize (m : Int) * 2 ^ (i + 1074).toNat = z at h3; simp; omega, fun hc => by omega⟩
end Go.Proofs.YtcbkgammlfjjoaaDoor
namespace Go.Proofs.YtcbkgammlfjjoaaDoor
set_option linter.unusedVariables false
set_option linter.unusedSimpArgs false
open Ieee

/-- 'n / g', rounded to the nearest, ties to even -/
def rnd (n g : Nat) : Nat := n / g + (decide (g < 2 * (n % g)) || (g == 2 * (n % g) && n / g % 2 == 1)).toNat
theorem rnd_scale (n g c : Nat) (hc : 0 < c) : rnd (n * c) (g * c) = rnd n g := by
  unfold rnd
  rw [Nat.mul_div_mul_right _ _ hc, Nat.mul_mod_mul_right]
  have e1 : decide (g * c < 2 * (n % g * c)) = decide (g < 2 * (n % g)) := by
    rw [decide_eq_decide, ← Nat.mul_assoc]
    exact Nat.mul_lt_mul_right hc
  have e2 : (g * c == 2 * (n % g * c)) = (g == 2 * (n % g)) := by
    rw [Bool.eq_iff_iff, beq_iff_eq, beq_iff_eq, ← Nat.mul_assoc]
    exact Nat.mul_right_cancel_iff hc
  rw [e1, e2]
theorem rnd_lo (n g : Nat) : n / g ≤ rnd n g := by unfold rnd; omega
theorem toNat_le (b : Bool) : b.toNat ≤ 1 := by cases b <;> decide
theorem rnd_hi (n g : Nat) : rnd n g ≤ n / g + 1 := by
  unfold rnd
  have := toNat_le (decide (g < 2 * (n % g)) || (g == 2 * (n % g) && n / g % 2 == 1))
  omega
theorem rnd_mono {n n' g : Nat} (hg : 0 < g) (h : n ≤ n') : rnd n g ≤ rnd n' g := by
  have h1 : n / g ≤ n' / g := Nat.div_le_div_right h
  by_cases he : n / g = n' / g
  · have d1 := Nat.div_add_mod n g
    have d2 := Nat.div_add_mod n' g
    rw [he] at d1
    have hr : n % g ≤ n' % g := by omega
    unfold rnd
    rw [he]
    refine Nat.add_le_add_left ?_ _
    by_cases hb : (decide (g < 2 * (n % g)) || (g == 2 * (n % g) && n' / g % 2 == 1)) = true
    · have hb' : (decide (g < 2 * (n' % g)) || (g == 2 * (n' % g) && n' / g % 2 == 1)) = true := by
        simp only [Bool.or_eq_true, Bool.and_eq_true, decide_eq_true_eq, beq_iff_eq] at hb ⊢
        by_cases hq : n % g = n' % g
        · rw [← hq]; exact hb
        · omega
      rw [hb']; exact toNat_le _
    · rw [Bool.not_eq_true] at hb
      rw [hb]; exact Nat.zero_le _
  · have := rnd_hi n g
    have := rnd_lo n' g
    omega
theorem cut_eq (neg : Bool) (n drop : Nat) : Toward.cut .even neg n drop = rnd n (2 ^ drop) := by
  unfold Toward.cut rnd
  dsimp only
  by_cases h : drop ≤ n.log2 + 2
  · rw [Nat.min_eq_left h, Nat.one_shiftLeft]
  · rw [Nat.min_eq_right (by omega), Nat.one_shiftLeft]
    have hn : n < 2 ^ (n.log2 + 1) := Nat.lt_log2_self
    have h1 : 2 ^ (n.log2 + 2) = 2 * 2 ^ (n.log2 + 1) := by rw [Nat.pow_succ, Nat.mul_comm]
    have h2 : 2 ^ (n.log2 + 2) ≤ 2 ^ drop := Nat.pow_le_pow_right (by decide) (by omega)
    generalize 2 ^ (n.log2 + 2) = a at h1 h2
    generalize 2 ^ (n.log2 + 1) = b at hn h1
    generalize 2 ^ drop = c at h2
    have q1 : n / a = 0 := Nat.div_eq_of_lt (by omega)
    have q2 : n / c = 0 := Nat.div_eq_of_lt (by omega)
    have q3 : n % a = n := Nat.mod_eq_of_lt (by omega)
    have q4 : n % c = n := Nat.mod_eq_of_lt (by omega)
    rw [q1, q2, q3, q4]
    have e1 : decide (a < 2 * n) = false := by rw [decide_eq_false_iff_not]; omega
    have e2 : decide (c < 2 * n) = false := by rw [decide_eq_false_iff_not]; omega
    simp [e1, e2]
theorem cut_zero (neg : Bool) (n drop : Nat) : Toward.cut .zero neg n drop = n / 2 ^ drop := by
  unfold Toward.cut
  dsimp only
  by_cases h : drop ≤ n.log2 + 2
  · rw [Nat.min_eq_left h, Nat.one_shiftLeft]; simp
  · rw [Nat.min_eq_right (by omega), Nat.one_shiftLeft]
    have hn : n < 2 ^ (n.log2 + 1) := Nat.lt_log2_self
    have h1 : 2 ^ (n.log2 + 2) = 2 * 2 ^ (n.log2 + 1) := by rw [Nat.pow_succ, Nat.mul_comm]
    have h2 : 2 ^ (n.log2 + 2) ≤ 2 ^ drop := Nat.pow_le_pow_right (by decide) (by omega)
    generalize 2 ^ (n.log2 + 2) = a at h1 h2
    generalize 2 ^ (n.log2 + 1) = b at hn h1
    generalize 2 ^ drop = c at h2
    rw [Nat.div_eq_of_lt (by omega), Nat.div_eq_of_lt (by omega)]
    rfl

/-- the place of the last digit that is kept -/
def lastP (mag : Nat) (place : Int) : Int := max (place + mag.log2 - 52) (-1074)
def kept (mag : Nat) (place : Int) : Nat := rnd (mag * 2 ^ (place - lastP mag place).toNat) (2 ^ (lastP mag place - place).toNat)
/-- the rung of a magnitude -/
def rung (mag : Nat) (place : Int) : Nat := if mag = 0 then 0 else min ((lastP mag place + 1074).toNat * 4503599627370496 + kept mag place) 9218868437227405312
theorem nearest_eq (neg : Bool) (mag : Nat) (place : Int) : Ieee.double.nearest neg mag place = Ieee.double.word neg (rung mag place) := by
  unfold Format.nearest rung
  split
  · rfl
  · dsimp only
    rw [dl, db, di, cut_eq, Nat.shiftLeft_eq]
    rfl
theorem rung_le (mag : Nat) (place : Int) : rung mag place ≤ 9218868437227405312 := by
  unfold rung
  split <;> omega
theorem kept_hi {mag : Nat} {place : Int} (h : mag ≠ 0) : kept mag place ≤ 9007199254740992 := by
  unfold kept
  have hn : mag < 2 ^ (mag.log2 + 1) := Nat.lt_log2_self
  have hL : place + mag.log2 - 52 ≤ lastP mag place := by unfold lastP; omega
  generalize lastP mag place = L at hL
  have h1 : mag * 2 ^ (place - L).toNat < 9007199254740992 * 2 ^ (L - place).toNat := by
    have e : 2 ^ (mag.log2 + 1) * 2 ^ (place - L).toNat ≤ 2 ^ 53 * 2 ^ (L - place).toNat := by
      rw [← Nat.pow_add, ← Nat.pow_add]
      exact Nat.pow_le_pow_right (by decide) (by omega)
    have f : mag * 2 ^ (place - L).toNat < 2 ^ (mag.log2 + 1) * 2 ^ (place - L).toNat := Nat.mul_lt_mul_of_pos_right hn (Nat.two_pow_pos _)
    exact Nat.lt_of_lt_of_le f e
  have h2 := rnd_hi (mag * 2 ^ (place - L).toNat) (2 ^ (L - place).toNat)
  have h3 : mag * 2 ^ (place - L).toNat / 2 ^ (L - place).toNat < 9007199254740992 := Nat.div_lt_of_lt_mul (by rw [Nat.mul_comm (2 ^ _)]; exact h1)
  omega
theorem kept_lo {mag : Nat} {place : Int} (h : mag ≠ 0) (hl : -1074 < lastP mag place) : 4503599627370496 ≤ kept mag place := by
  unfold kept
  have hn : 2 ^ mag.log2 ≤ mag := Nat.log2_self_le h
  have hL : place + mag.log2 - 52 = lastP mag place := by unfold lastP at hl ⊢; omega
  generalize lastP mag place = L at hL
  have h1 : 4503599627370496 * 2 ^ (L - place).toNat ≤ mag * 2 ^ (place - L).toNat := by
    have e : 2 ^ 52 * 2 ^ (L - place).toNat ≤ 2 ^ mag.log2 * 2 ^ (place - L).toNat := by
      rw [← Nat.pow_add, ← Nat.pow_add]
      exact Nat.pow_le_pow_right (by decide) (by omega)
    exact Nat.le_trans e (Nat.mul_le_mul_right _ hn)
  have h2 := rnd_lo (mag * 2 ^ (place - L).toNat) (2 ^ (L - place).toNat)
  have h3 : 4503599627370496 ≤ mag * 2 ^ (place - L).toNat / 2 ^ (L - place).toNat := (Nat.le_div_iff_mul_le (Nat.two_pow_pos _)).2 h1
  omega
theorem kept_wide {mag : Nat} {place : Int} {L : Int} (hp : -3000 ≤ place) (hL : lastP mag place = L) : kept mag place = rnd (mag * 2 ^ (place + 3000).toNat) (2 ^ (L + 3000).toNat) := by
  have hl : -1074 ≤ L := by unfold lastP at hL; omega
  unfold kept
  rw [hL]
  rw [← rnd_scale _ _ (2 ^ (min place L + 3000).toNat) (Nat.two_pow_pos _), Nat.mul_assoc, ← Nat.pow_add, ← Nat.pow_add]
  congr 2
  · congr 1
    omega
  · congr 1
    omega
/-- ROUNDING TURNS NO ORDER -/
theorem rung_mono {m1 m2 : Nat} {p1 p2 : Int} (h1 : -3000 ≤ p1) (h2 : -3000 ≤ p2) (h : m1 * 2 ^ (p1 + 3000).toNat ≤ m2 * 2 ^ (p2 + 3000).toNat) : rung m1 p1 ≤ rung m2 p2 := by
  by_cases hz : m1 = 0
  · unfold rung; rw [if_pos hz]; exact Nat.zero_le _
  · have hz2 : m2 ≠ 0 := by
      intro h0
      rw [h0, Nat.zero_mul] at h
      have := Nat.mul_pos (Nat.pos_of_ne_zero hz) (Nat.two_pow_pos (p1 + 3000).toNat)
      omega
    have hlog : m1.log2 + (p1 + 3000).toNat ≤ m2.log2 + (p2 + 3000).toNat := by
      have a1 : 2 ^ m1.log2 ≤ m1 := Nat.log2_self_le hz
      have a2 : m2 < 2 ^ (m2.log2 + 1) := Nat.lt_log2_self
      have a3 : 2 ^ m1.log2 * 2 ^ (p1 + 3000).toNat ≤ m1 * 2 ^ (p1 + 3000).toNat := Nat.mul_le_mul_right _ a1
      have a4 : m2 * 2 ^ (p2 + 3000).toNat < 2 ^ (m2.log2 + 1) * 2 ^ (p2 + 3000).toNat := Nat.mul_lt_mul_of_pos_right a2 (Nat.two_pow_pos _)
      rw [← Nat.pow_add] at a3 a4
      have a5 : 2 ^ (m1.log2 + (p1 + 3000).toNat) < 2 ^ (m2.log2 + 1 + (p2 + 3000).toNat) := by omega
      have := (Nat.pow_lt_pow_iff_right (by decide : 1 < 2)).1 a5
      omega
    have hL : lastP m1 p1 ≤ lastP m2 p2 := by unfold lastP; omega
    unfold rung
    rw [if_neg hz, if_neg hz2]
    have hl1 : -1074 ≤ lastP m1 p1 := by unfold lastP; omega
    have hk1 := kept_hi (place := p1) hz
    by_cases he : lastP m1 p1 = lastP m2 p2
    · have k1 := kept_wide (L := lastP m1 p1) h1 rfl
      have k2 := kept_wide (L := lastP m1 p1) h2 he.symm
      have := rnd_mono (Nat.two_pow_pos (lastP m1 p1 + 3000).toNat) h
      rw [← k1, ← k2] at this
      clear k1 k2 h hlog
      rw [← he]
      omega
    · have hk2 := kept_lo hz2 (show -1074 < lastP m2 p2 by omega)
      clear h hlog
      omega
/-- what a rung stands for -/
def rval (r : Nat) : Int := if r < 4503599627370496 then r else if r < 9218868437227405312 then (4503599627370496 + r % 4503599627370496 : Nat) * 2 ^ (r / 4503599627370496 - 1) else big
theorem rval_mono {r t : Nat} (h : r ≤ t) (ht : t ≤ 9218868437227405312) : rval r ≤ rval t := by
  have hp : ∀ k : Nat, (1 : Int) ≤ 2 ^ k := fun k => by have : (0 : Int) < 2 ^ k := Int.pow_pos (by decide); omega
  unfold rval
  by_cases h1 : t < 4503599627370496
  · rw [if_pos (by omega), if_pos h1]; omega
  · rw [if_neg h1]
    by_cases h2 : t < 9218868437227405312
    · rw [if_pos h2]
      by_cases h3 : r < 4503599627370496
      · rw [if_pos h3]
        have := Int.mul_le_mul_of_nonneg_left (hp (t / 4503599627370496 - 1)) (show (0 : Int) ≤ ((4503599627370496 + t % 4503599627370496 : Nat) : Int) by omega)
        omega
      · rw [if_neg h3, if_pos (by omega)]
        by_cases he : r / 4503599627370496 = t / 4503599627370496
        · rw [he]
          refine Int.mul_le_mul_of_nonneg_right ?_ (by have := hp (t / 4503599627370496 - 1); omega)
          omega
        · have e1 : ((4503599627370496 + r % 4503599627370496 : Nat) : Int) * 2 ^ (r / 4503599627370496 - 1) ≤ 9007199254740992 * 2 ^ (r / 4503599627370496 - 1) :=
            Int.mul_le_mul_of_nonneg_right (by omega) (by have := hp (r / 4503599627370496 - 1); omega)
          have e2 : (4503599627370496 : Int) * 2 ^ (t / 4503599627370496 - 1) ≤ ((4503599627370496 + t % 4503599627370496 : Nat) : Int) * 2 ^ (t / 4503599627370496 - 1) :=
            Int.mul_le_mul_of_nonneg_right (by omega) (by have := hp (t / 4503599627370496 - 1); omega)
          have e3 : (9007199254740992 : Int) * 2 ^ (r / 4503599627370496 - 1) ≤ 4503599627370496 * 2 ^ (t / 4503599627370496 - 1) := by
            obtain ⟨d, hd⟩ : ∃ d, t / 4503599627370496 - 1 = (r / 4503599627370496 - 1) + 1 + d := ⟨t / 4503599627370496 - r / 4503599627370496 - 1, by omega⟩
            rw [hd, Int.pow_add, Int.pow_succ]
            have := hp d
            have q := hp (r / 4503599627370496 - 1)
            generalize (2 : Int) ^ (r / 4503599627370496 - 1) = x at q
            have := Int.mul_le_mul_of_nonneg_left (hp d) (show (0 : Int) ≤ x * 2 by omega)
            generalize x * 2 * 2 ^ d = y at this
            omega
          omega
    · rw [if_neg h2]
      by_cases h3 : r < 4503599627370496
      · rw [if_pos h3]
        have := big_lt (m := r) (k := 0) (by omega) (by omega)
        simpa using Int.le_of_lt this
      · rw [if_neg h3]
        by_cases h4 : r < 9218868437227405312
        · rw [if_pos h4]
          exact Int.le_of_lt (big_lt (by omega) (by omega))
        · rw [if_neg h4]; exact Int.le_refl _
theorem rval_nonneg (r : Nat) : 0 ≤ rval r := by
  have hp : ∀ k : Nat, (0 : Int) < 2 ^ k := fun k => Int.pow_pos (by decide)
  have := big_pos
  unfold rval
  split
  · omega
  · split
    · exact Int.mul_nonneg (by omega) (Int.le_of_lt (hp _))
    · omega
theorem read_word (s : Bool) {r : Nat} (h : r ≤ 9218868437227405312) : dky (Ieee.double.read (Ieee.double.word s r)) = (if s then -1 else 1) * rval r ∧ (Ieee.double.read (Ieee.double.word s r)).isNaN = false := by
  have e1 : Ieee.double.word s r % 9223372036854775808 = r := by
    unfold Format.word; rw [dsw]; split <;> omega
  have e2 : (Ieee.double.word s r / 9223372036854775808 % 2 == 1) = s := by
    unfold Format.word; rw [dsw]
    cases s
    · rw [if_neg (by decide)]; simp; omega
    · rw [if_pos rfl]; simp; omega
  unfold Format.read
  rw [dl, db, di, dsw]
  dsimp only
  rw [e1, e2]
  unfold rval
  by_cases h1 : r < 4503599627370496
  · rw [if_pos h1, if_pos h1]
    exact ⟨by simp only [dky]; rw [show ((-1074 : Int) + 1074).toNat = 0 from rfl, Int.pow_zero, Int.mul_one], rfl⟩
  · rw [if_neg h1, if_neg h1]
    by_cases h2 : r < 9218868437227405312
    · rw [if_pos h2, if_pos h2]
      refine ⟨?_, rfl⟩
      simp only [dky]
      rw [show ((-1074 : Int) + ((r / 4503599627370496 - 1 : Nat) : Int) + 1074).toNat = r / 4503599627370496 - 1 from by omega]
    · rw [if_neg h2, if_neg h2, if_pos (by omega)]
      exact ⟨rfl, rfl⟩
theorem ky_nearest (s : Bool) (m : Nat) (p : Int) : ky (Ieee.double.nearest s m p) = (if s then -1 else 1) * rval (rung m p) := by
  rw [nearest_eq]; exact (read_word s (rung_le m p)).1
theorem nan_nearest (s : Bool) (m : Nat) (p : Int) : nanB (Ieee.double.nearest s m p) = false := by
  rw [nearest_eq]; exact (read_word s (rung_le m p)).2
theorem rval_inf : rval 9218868437227405312 = big := by unfold rval; rw [if_neg (by decide), if_neg (by decide)]
theorem ky_inf (s : Bool) : ky (Ieee.double.word s 9218868437227405312) = (if s then -1 else 1) * big ∧ nanB (Ieee.double.word s 9218868437227405312) = false := by
  have := read_word s (Nat.le_refl 9218868437227405312)
  rw [rval_inf] at this; exact this
theorem rval_le_big {r : Nat} (hr : r ≤ 9218868437227405312) : rval r ≤ big := by
  have := rval_mono hr (Nat.le_refl _)
  rwa [rval_inf] at this
/-- a datum times a positive number, written -/
def timesW (n : Nat) (j : Int) : Datum → Nat
  | .number s m i => Ieee.double.nearest s (m * n) (i + j)
  | .infinity s => Ieee.double.word s 9218868437227405312
  | .nan .. => 0
theorem mul_pos_word {x c n : Nat} {j : Int} (hc : Ieee.double.read c = .number false n j) (hn : n ≠ 0) (hx : nanB x = false) : Ieee.double.mul x c = some (timesW n j (Ieee.double.read x)) := by
  unfold nanB at hx
  unfold Format.mul
  rw [hc]
  generalize Ieee.double.read x = X at hx
  cases X with
  | nan => cases hx
  | infinity s =>
    show Option.map _ (if n = 0 then none else some (Datum.infinity (s ^^ false))) = _
    rw [if_neg hn, Bool.xor_false, Option.map_some]
    show some (Ieee.double.word s Ieee.double.infRung) = _
    rw [di]; rfl
  | number s m i =>
    show Option.map _ (some (Datum.number (s ^^ false) (m * n) (i + j))) = _
    rw [Bool.xor_false]; rfl
theorem sgn_mono {s t : Bool} {a b a' b' : Int} (ha : 0 ≤ a) (hb : 0 ≤ b) (ha' : 0 ≤ a') (hb' : 0 ≤ b') (h1 : a ≤ b → a' ≤ b') (h2 : b ≤ a → b' ≤ a') (hz : a = 0 → a' = 0) (hz2 : b = 0 → b' = 0) (h : (if s then -1 else 1) * a ≤ (if t then -1 else 1) * b) :
    (if s then -1 else 1) * a' ≤ (if t then -1 else 1) * b' := by
  cases s <;> cases t <;> simp at h ⊢
  · exact h1 (by omega)
  · have := hz (by omega); have := hz2 (by omega); omega
  · omega
  · have := h2 (by omega); omega
/-- products by a positive number turn no order -/
theorem times_mono {x y n : Nat} {j : Int} (hn : n ≠ 0) (hj : -1074 ≤ j) (hx : nanB x = false) (hy : nanB y = false) (h : ky x ≤ ky y) :
    ky (timesW n j (Ieee.double.read x)) ≤ ky (timesW n j (Ieee.double.read y)) := by
  unfold nanB at hx hy
  unfold ky at h
  have rx := @read_number x
  have ry := @read_number y
  generalize Ieee.double.read x = X at hx h rx
  generalize Ieee.double.read y = Y at hy h ry
  have hbp := big_pos
  cases X with
  | nan => cases hx
  | infinity s =>
    cases Y with
    | nan => cases hy
    | infinity t =>
      simp only [timesW, (ky_inf _).1]
      simp only [dky] at h
      exact h
    | number t m i =>
      simp only [timesW, (ky_inf _).1, ky_nearest]
      simp only [dky] at h
      have g1 := rval_le_big (rung_le (m * n) (i + j))
      have g2 := rval_nonneg (rung (m * n) (i + j))
      have r := ry rfl
      have g3 := big_lt (k := (i + 1074).toNat) r.1 (by omega)
      have g4 : (0 : Int) ≤ (m : Int) * 2 ^ (i + 1074).toNat := Int.mul_nonneg (by omega) (Int.le_of_lt (Int.pow_pos (by decide)))
      generalize rval (rung (m * n) (i + j)) = z at g1 g2
      generalize (m : Int) * 2 ^ (i + 1074).toNat = u at h g3 g4
      cases s <;> cases t <;> simp at h ⊢ <;> omega
  | number s m i =>
    have r := rx rfl
    have g3 := big_lt (k := (i + 1074).toNat) r.1 (by omega)
    have g4 : (0 : Int) ≤ (m : Int) * 2 ^ (i + 1074).toNat := Int.mul_nonneg (by omega) (Int.le_of_lt (Int.pow_pos (by decide)))
    cases Y with
    | nan => cases hy
    | infinity t =>
      simp only [timesW, (ky_inf _).1, ky_nearest]
      simp only [dky] at h
      have g1 := rval_le_big (rung_le (m * n) (i + j))
      have g2 := rval_nonneg (rung (m * n) (i + j))
      generalize rval (rung (m * n) (i + j)) = z at g1 g2
      generalize (m : Int) * 2 ^ (i + 1074).toNat = u at h g3 g4
      cases s <;> cases t <;> simp at h ⊢ <;> omega
    | number t m' i' =>
      have r' := ry rfl
      have g4' : (0 : Int) ≤ (m' : Int) * 2 ^ (i' + 1074).toNat := Int.mul_nonneg (by omega) (Int.le_of_lt (Int.pow_pos (by decide)))
      simp only [timesW, ky_nearest]
      simp only [dky] at h
      have hmono : ∀ (a b : Nat) (p q : Int), -1074 ≤ p → -1074 ≤ q → (a : Int) * 2 ^ (p + 1074).toNat ≤ (b : Int) * 2 ^ (q + 1074).toNat → rval (rung (a * n) (p + j)) ≤ rval (rung (b * n) (q + j)) := by
        intro a b p q hp hq hab
        have hab' : a * 2 ^ (p + 1074).toNat ≤ b * 2 ^ (q + 1074).toNat := by
          have q1 : ((a * 2 ^ (p + 1074).toNat : Nat) : Int) ≤ ((b * 2 ^ (q + 1074).toNat : Nat) : Int) := by rw [Int.natCast_mul, Int.natCast_mul, Int.natCast_pow, Int.natCast_pow]; exact hab
          exact Int.ofNat_le.1 q1
        refine rval_mono (rung_mono (by omega) (by omega) ?_) (rung_le _ _)
        have e1 : (p + j + 3000).toNat = (p + 1074).toNat + (j + 1926).toNat := by omega
        have e2 : (q + j + 3000).toNat = (q + 1074).toNat + (j + 1926).toNat := by omega
        rw [e1, e2, Nat.pow_add, Nat.pow_add]
        have f1 : a * n * (2 ^ (p + 1074).toNat * 2 ^ (j + 1926).toNat) = (a * 2 ^ (p + 1074).toNat) * (n * 2 ^ (j + 1926).toNat) := by ac_rfl
        have f2 : b * n * (2 ^ (q + 1074).toNat * 2 ^ (j + 1926).toNat) = (b * 2 ^ (q + 1074).toNat) * (n * 2 ^ (j + 1926).toNat) := by ac_rfl
        rw [f1, f2]
        exact Nat.mul_le_mul_right _ hab'
      have hzero : ∀ (a : Nat) (p : Int), (a : Int) * 2 ^ (p + 1074).toNat = 0 → rval (rung (a * n) (p + j)) = 0 := by
        intro a p h0
        have : a = 0 := by
          rcases Int.mul_eq_zero.1 h0 with h | h
          · omega
          · have : (0 : Int) < 2 ^ (p + 1074).toNat := Int.pow_pos (by decide)
            omega
        rw [this, Nat.zero_mul]
        rfl
      exact sgn_mono g4 g4' (rval_nonneg _) (rval_nonneg _) (hmono m m' i i' r.2.1 r'.2.1) (hmono m' m i' i r'.2.1 r.2.1) (hzero m i) (hzero m' i') h
theorem nan_times {x n : Nat} {j : Int} (hx : nanB x = false) : nanB (timesW n j (Ieee.double.read x)) = false := by
  unfold nanB at hx
  generalize Ieee.double.read x = X at hx
  cases X with
  | nan => cases hx
  | infinity s => exact (ky_inf s).2
  | number s m i => exact nan_nearest _ _ _

theorem two_nat (k : Nat) : (2 : Int) ^ k = ((2 ^ k : Nat) : Int) := by rw [Int.natCast_pow]; rfl
theorem two_le {j k : Nat} (h : j ≤ k) : (2 : Int) ^ j ≤ 2 ^ k := by
  rw [two_nat, two_nat]
  exact Int.ofNat_le.2 (Nat.pow_le_pow_right (by decide) h)
/-- cut towards nought -/
theorem toInt_ky {b : Nat} {s : Bool} {m : Nat} {i : Int} (h : Ieee.double.read b = .number s m i) : (Ieee.double.read b).toInt .zero = some (Int.tdiv (ky b) (2 ^ 1074)) := by
  have r := read_number h
  unfold ky
  rw [h]
  show some (signed s (Toward.cut .zero s (m <<< i.toNat) (-i).toNat) 0) = _
  rw [cut_zero, signed_eq, Nat.shiftLeft_eq]
  simp only [dky, Int.pow_zero, Int.mul_one]
  congr 1
  have e : m * 2 ^ i.toNat / 2 ^ (-i).toNat = m * 2 ^ (i + 1074).toNat / 2 ^ 1074 := by
    have f1 : (i + 1074).toNat = i.toNat + (1074 - (-i).toNat) := by omega
    have f2 : (2 : Nat) ^ 1074 = 2 ^ (-i).toNat * 2 ^ (1074 - (-i).toNat) := by rw [← Nat.pow_add]; congr 1; omega
    rw [f1, f2, Nat.pow_add, ← Nat.mul_assoc, Nat.mul_div_mul_right _ _ (Nat.two_pow_pos _)]
  rw [e]
  have g : ((m * 2 ^ (i + 1074).toNat / 2 ^ 1074 : Nat) : Int) = Int.tdiv ((m : Int) * 2 ^ (i + 1074).toNat) (2 ^ 1074) := by
    have q : (m : Int) * 2 ^ (i + 1074).toNat = ((m * 2 ^ (i + 1074).toNat : Nat) : Int) := by rw [Int.natCast_mul, Int.natCast_pow]; rfl
    have q2 := two_nat 1074
    rw [q, q2, Int.ofNat_tdiv]
  rw [g]
  generalize (2 : Int) ^ 1074 = c
  cases s
  · simp
  · simp [Int.neg_tdiv]
end Go.Proofs.YtcbkgammlfjjoaaDoor
namespace Go.Proofs.YtcbkgammlfjjoaaDoor
set_option linter.unusedVariables false
set_option linter.unusedSimpArgs false
open Ieee

/-- the sign turned -/
def negW (b : Nat) : Nat := if b < 9223372036854775808 then b + 9223372036854775808 else b - 9223372036854775808
theorem xor_top {b : Nat} (h : b < 9223372036854775808) : b ^^^ 2 ^ 63 = b + 2 ^ 63 := by
  apply Nat.eq_of_testBit_eq
  intro i
  rw [Nat.testBit_xor, Nat.add_comm, Nat.testBit_two_pow]
  by_cases hi : i = 63
  · subst hi
    rw [Nat.testBit_two_pow_add_eq]
    simp
  · rcases Nat.lt_or_gt_of_ne hi with h1 | h1
    · rw [Nat.testBit_two_pow_add_gt h1]
      have : ¬ 63 = i := by omega
      simp [this]
    · have hp : 2 ^ 63 ≤ 2 ^ i := Nat.pow_le_pow_right (by decide) (by omega)
      have hp2 : 2 ^ 64 ≤ 2 ^ i := Nat.pow_le_pow_right (by decide) (by omega)
      have e1 : b.testBit i = false := Nat.testBit_lt_two_pow (by omega)
      have e2 : (2 ^ 63 + b).testBit i = false := Nat.testBit_lt_two_pow (by omega)
      have : ¬ 63 = i := by omega
      rw [e1, e2]; simp [this]
theorem neg_eq {b : Nat} (h : b < 18446744073709551616) : Op.negFloat .f64 b = negW b := by
  show b ^^^ 2 ^ 63 = _
  unfold negW
  split
  · rename_i h1; exact xor_top h1
  · rename_i h1
    obtain ⟨c, rfl⟩ : ∃ c, b = c + 2 ^ 63 := ⟨b - 2 ^ 63, by omega⟩
    rw [← xor_top (by omega : c < 9223372036854775808), Nat.xor_assoc, Nat.xor_self, Nat.xor_zero, xor_top (by omega)]
    omega
theorem negW_lt {b : Nat} (h : b < 18446744073709551616) : negW b < 18446744073709551616 := by unfold negW; split <;> omega
theorem read_negW {b : Nat} (h : b < 18446744073709551616) : Ieee.double.read (negW b) = (Ieee.double.read b).opposite := by
  have e1 : negW b % 9223372036854775808 = b % 9223372036854775808 := by unfold negW; split <;> omega
  have e2 : (negW b / 9223372036854775808 % 2 == 1) = !(b / 9223372036854775808 % 2 == 1) := by
    unfold negW
    rw [Bool.eq_iff_iff]
    split
    · simp; omega
    · simp; omega
  unfold Format.read
  rw [dl, db, di, dsw]
  dsimp only
  rw [e1, e2]
  split
  · rfl
  · split
    · rfl
    · split <;> rfl
theorem dky_opp (d : Datum) : dky d.opposite = - dky d := by
  cases d with
  | nan => rfl
  | infinity s => cases s <;> simp [Datum.opposite, dky]
  | number s m i => cases s <;> simp [Datum.opposite, dky]
theorem ky_negW {b : Nat} (h : b < 18446744073709551616) : ky (negW b) = - ky b := by unfold ky; rw [read_negW h, dky_opp]
theorem nan_negW {b : Nat} (h : b < 18446744073709551616) : nanB (negW b) = nanB b := by
  unfold nanB; rw [read_negW h]; cases Ieee.double.read b <;> rfl
/-- the sign taken off -/
theorem read_abs (b : Nat) (h : b < 18446744073709551616) : Ieee.double.read (b % 9223372036854775808) = if b < 9223372036854775808 then Ieee.double.read b else (Ieee.double.read b).opposite := by
  split
  · rw [Nat.mod_eq_of_lt (by assumption)]
  · rw [← read_negW h]
    congr 1
    unfold negW
    rw [if_neg (by assumption)]
    omega
theorem ky_abs {b : Nat} (h : b < 18446744073709551616) (hn : nanB b = false) : ky (b % 9223372036854775808) = (ky b).natAbs ∧ nanB (b % 9223372036854775808) = false := by
  have hs := ky_sign h hn
  unfold ky nanB at *
  rw [read_abs b h]
  split
  · have := hs.2 (by assumption)
    exact ⟨by omega, hn⟩
  · have := hs.1 (by omega)
    refine ⟨by rw [dky_opp]; omega, ?_⟩
    generalize Ieee.double.read b = x at hn
    cases x <;> first | rfl | exact hn
/-- the least place's unit -/
def unitI : Int := 2 ^ 1074
theorem unitI_pos : 0 < unitI := by unfold unitI; exact Int.pow_pos (by decide)
theorem toInt_unit {b : Nat} {s : Bool} {m : Nat} {i : Int} (h : Ieee.double.read b = .number s m i) : (Ieee.double.read b).toInt .zero = some (Int.tdiv (ky b) unitI) := toInt_ky h
theorem big_unit : 9007199254740992 * unitI < big := by
  have := big_lt (m := 9007199254740991) (k := 1075) (by decide) (by decide)
  unfold unitI
  have e : (2 : Int) ^ 1075 = 2 ^ 1074 * 2 := by rw [← Int.pow_succ]
  rw [e] at this
  have hp : (0 : Int) < 2 ^ 1074 := Int.pow_pos (by decide)
  generalize (2 : Int) ^ 1074 = u at *
  omega
theorem ky_c53 : ky 4845873199050653696 = 9007199254740992 * unitI := by
  show dky (Ieee.double.read 4845873199050653696) = _
  rw [show Ieee.double.read 4845873199050653696 = .number false 4503599627370496 1 from by kernel_rfl]
  simp only [dky, unitI]
  rw [show ((1 : Int) + 1074).toNat = 1074 + 1 from rfl, Int.pow_succ]
  simp only [Bool.false_eq_true, if_false, Int.one_mul]
  generalize (2 : Int) ^ 1074 = u
  omega
theorem ky_nc53 : ky 14069245235905429504 = - (9007199254740992 * unitI) := by
  rw [← ky_c53, ← ky_negW (by decide)]
  rfl
attribute [irreducible] unitI
theorem nan_c53 : nanB 4845873199050653696 = false := by kernel_rfl
theorem nan_nc53 : nanB 14069245235905429504 = false := by kernel_rfl
theorem read_inf {b : Nat} {s : Bool} (h : b < 18446744073709551616) (hr : Ieee.double.read b = .infinity s) : b = if s then 18442240474082181120 else 9218868437227405312 := by
  have hs := read_sign h
  rw [hr] at hs
  unfold Format.read at hr
  rw [dl, db, di, dsw] at hr
  dsimp only at hr
  split at hr
  · cases hr
  · split at hr
    · cases hr
    · split at hr
      · cases s
        · have : ¬ 9223372036854775808 ≤ b := by simpa [Datum.neg] using hs
          simp; omega
        · have : 9223372036854775808 ≤ b := by simpa [Datum.neg] using hs
          simp; omega
      · cases hr
theorem ky_number {b : Nat} {s : Bool} {m : Nat} {i : Int} (hr : Ieee.double.read b = .number s m i) : (ky b).natAbs ≤ (ky 9218868437227405311).natAbs ∧ ky b < big ∧ - big < ky b := by
  have r := read_number hr
  have h1 := big_lt (k := (i + 1074).toNat) r.1 (by omega)
  have h2 : (0 : Int) ≤ (m : Int) * 2 ^ (i + 1074).toNat := Int.mul_nonneg (by omega) (Int.le_of_lt (Int.pow_pos (by decide)))
  have h3 : (m : Int) * 2 ^ (i + 1074).toNat ≤ (9007199254740991 : Int) * 2 ^ 2045 := by
    refine Int.mul_le_mul (by omega) ?_ (Int.le_of_lt (Int.pow_pos (by decide))) (by decide)
    exact two_le (by omega)
  have hM : ky 9218868437227405311 = (9007199254740991 : Int) * 2 ^ 2045 := by
    show dky (Ieee.double.read 9218868437227405311) = _
    rw [show Ieee.double.read 9218868437227405311 = .number false 9007199254740991 971 from by kernel_rfl]
    simp only [dky]
    rw [show ((971 : Int) + 1074).toNat = 2045 from rfl]
    generalize (2 : Int) ^ 2045 = c
    simp
  rw [hM]
  unfold ky
  rw [hr]
  simp only [dky]
  generalize (m : Int) * 2 ^ (i + 1074).toNat = u at *
  generalize (9007199254740991 : Int) * 2 ^ 2045 = v at *
  cases s <;> simp <;> omega
theorem nan_number {b : Nat} {s : Bool} {m : Nat} {i : Int} (hr : Ieee.double.read b = .number s m i) : nanB b = false := by unfold nanB; rw [hr]; rfl
theorem nan_max : nanB 9218868437227405311 = false := by kernel_rfl
theorem ky_max_pos : 0 ≤ ky 9218868437227405311 := (ky_sign (by decide) nan_max).2 (by decide)
/-- a number is not above the greatest one -/
theorem max_number {b : Nat} {s : Bool} {m : Nat} {i : Int} (hb : b < 18446744073709551616) (hr : Ieee.double.read b = .number s m i) :
    ltB 9218868437227405311 b = false ∧ ltB 9218868437227405311 (negW b) = false ∧ eqB b 9218868437227405312 = false ∧ eqB b 18442240474082181120 = false := by
  have h := ky_number hr
  have hp := ky_max_pos
  have k1 : ky 9218868437227405312 = big := by have := (ky_inf false).1; simpa [Format.word] using this
  have k2 : ky 18442240474082181120 = -big := by have := (ky_inf true).1; simpa [Format.word, dsw] using this
  refine ⟨?_, ?_, ?_, ?_⟩
  · unfold ltB
    have : ¬ ky 9218868437227405311 < ky b := by omega
    simp [this]
  · unfold ltB
    rw [ky_negW hb]
    have : ¬ ky 9218868437227405311 < - ky b := by omega
    simp [this]
  · unfold eqB
    rw [k1]
    have : ¬ ky b = big := by omega
    simp [this]
  · unfold eqB
    rw [k2]
    have : ¬ ky b = -big := by omega
    simp [this]
/-- a float's thousandths, unrounded in their way of writing -/
def thouW (x : Nat) : Nat := timesW 8796093022208000 (-43) (Ieee.double.read x)
theorem mul_1000 {x : Nat} (h : nanB x = false) : Ieee.double.mul x 4652007308841189376 = some (thouW x) := mul_pos_word (by kernel_rfl) (by decide) h
theorem thouW_lt (x : Nat) : thouW x < 18446744073709551616 := by
  unfold thouW timesW
  split
  · exact Ieee.double.nearest_lt _ _ _
  · exact Ieee.double.word_lt _ (by decide)
  · decide
theorem nan_thouW {x : Nat} (h : nanB x = false) : nanB (thouW x) = false := nan_times h
theorem thou_mono {x y : Nat} (hx : nanB x = false) (hy : nanB y = false) (h : ky x ≤ ky y) : ky (thouW x) ≤ ky (thouW y) := times_mono (by decide) (by decide) hx hy h
def bigB (y : Nat) : Bool := decide (9007199254740992 * unitI < (ky y).natAbs)
theorem bigB_ours {y : Nat} (h : y < 18446744073709551616) (hn : nanB y = false) : ltB 4845873199050653696 (y % 9223372036854775808) = bigB y := by
  have := ky_abs h hn
  unfold ltB bigB
  rw [this.1, this.2, nan_c53, ky_c53]
  simp
theorem bigB_theirs {y : Nat} (hn : nanB y = false) : (ltB 4845873199050653696 y || ltB y 14069245235905429504) = bigB y := by
  have := unitI_pos
  unfold ltB bigB
  rw [hn, nan_c53, nan_nc53, ky_c53, ky_nc53]
  simp only [Bool.not_false, Bool.true_and]
  generalize unitI = u at *
  rw [Bool.eq_iff_iff, Bool.or_eq_true, decide_eq_true_eq, decide_eq_true_eq, decide_eq_true_eq]
  omega
theorem toInt_small {y : Nat} (hn : nanB y = false) (hb : bigB y = false) : floatToIntVal .f64 y .i64 = some (Int.tdiv (ky y) unitI) := by
  have hu := unitI_pos
  have hbu := big_unit
  have hk : (ky y).natAbs ≤ 9007199254740992 * unitI := by
    have : ¬ 9007199254740992 * unitI < ((ky y).natAbs : Int) := by unfold bigB at hb; exact of_decide_eq_false hb
    omega
  unfold floatToIntVal
  show (match (Ieee.double.read y).toInt .zero with | some n => if IntKind.i64.min ≤ n ∧ n ≤ IntKind.i64.max then some n else none | none => none) = _
  have hbp := big_pos
  cases hr : Ieee.double.read y with
  | nan s f => unfold nanB at hn; rw [hr] at hn; cases hn
  | infinity s =>
    exfalso
    have : ky y = (if s then -1 else 1) * big := by unfold ky; rw [hr]; rfl
    rw [this] at hk
    generalize unitI = u at *
    cases s <;> simp at hk <;> omega
  | number s m i =>
    rw [← hr, toInt_unit hr]
    have h1 : Int.tdiv (ky y) unitI ≤ 9007199254740992 ∧ -9007199254740992 ≤ Int.tdiv (ky y) unitI := by
      have e1 : ((ky y).tdiv unitI).natAbs = (ky y).natAbs / unitI.natAbs := Int.natAbs_tdiv (ky y) unitI
      have e2 : (ky y).natAbs / unitI.natAbs ≤ 9007199254740992 := Nat.div_le_of_le_mul (by omega)
      omega
    dsimp only
    rw [if_pos ⟨by show (-9223372036854775808 : Int) ≤ _; omega, by show _ ≤ (9223372036854775807 : Int); omega⟩]
theorem tdiv_mono {a b u : Int} (hu : 0 < u) (h : a ≤ b) : Int.tdiv a u ≤ Int.tdiv b u := Int.tdiv_le_tdiv hu h
/-- Mills, plainly -/
def millsF (x : Nat) : Int × Int := if nanB x then (0, 1) else if x = 9218868437227405312 then (0, 2) else if x = 18442240474082181120 then (0, 3) else if bigB (thouW x) then (0, 4) else (Int.tdiv (ky (thouW x)) unitI, 0)
theorem millsF_mono {x y : Nat} (hx : (millsF x).2 = 0) (hy : (millsF y).2 = 0) (h : nanB x = false → nanB y = false → ky x ≤ ky y) : (millsF x).1 ≤ (millsF y).1 := by
  unfold millsF at *
  cases hnx : nanB x with
  | true => simp [hnx] at hx
  | false =>
    cases hny : nanB y with
    | true => simp [hny] at hy
    | false =>
      simp only [hnx, hny, Bool.false_eq_true, if_false] at hx hy ⊢
      split at hx
      · simp at hx
      · split at hx
        · simp at hx
        · split at hx
          · simp at hx
          · split at hy
            · simp at hy
            · split at hy
              · simp at hy
              · split at hy
                · simp at hy
                · rename_i a1 a2 a3 b1 b2 b3
                  rw [if_neg a1, if_neg a2, if_neg a3, if_neg b1, if_neg b2, if_neg b3]
                  exact tdiv_mono unitI_pos (thou_mono hnx hny (h hnx hny))
end Go.Proofs.YtcbkgammlfjjoaaDoor
namespace Go.Proofs.YtcbkgammlfjjoaaDoor
set_option linter.unusedVariables false
set_option linter.unusedSimpArgs false
open Ieee

theorem opp_opp (d : Datum) : d.opposite.opposite = d := by cases d <;> simp [Datum.opposite]
theorem quot_opp (k : Nat) (x y : Datum) : x.opposite.quotient k y = (x.quotient k y).map Datum.opposite := by
  cases x <;> cases y <;> simp [Datum.opposite, Datum.quotient]
  · split
    · split <;> simp [Datum.opposite]
    · simp [Datum.opposite]
theorem quot_opp2 (k : Nat) (x y : Datum) : x.quotient k y.opposite = (x.quotient k y).map Datum.opposite := by
  cases x <;> cases y <;> simp [Datum.opposite, Datum.quotient]
  · split
    · split <;> simp [Datum.opposite]
    · simp [Datum.opposite]
theorem quot_not_nan {k : Nat} {x y d : Datum} (h : x.quotient k y = some d) : d.isNaN = false := by
  cases x <;> cases y <;> simp only [Datum.quotient] at h
  all_goals first | (cases h; done) | (injection h with h; subst h; rfl) | skip
  split at h
  · split at h
    · cases h
    · injection h with h; subst h; rfl
  · injection h with h; subst h; rfl
theorem word_neg (s : Bool) {r : Nat} (h : r ≤ 9218868437227405312) : Ieee.double.word (!s) r = negW (Ieee.double.word s r) := by
  unfold Format.word negW
  rw [dsw]
  cases s
  · show 9223372036854775808 + r = if r < 9223372036854775808 then r + 9223372036854775808 else r - 9223372036854775808
    rw [if_pos (by omega)]; omega
  · show r = if 9223372036854775808 + r < 9223372036854775808 then 9223372036854775808 + r + 9223372036854775808 else 9223372036854775808 + r - 9223372036854775808
    rw [if_neg (by omega)]; omega
theorem write_opp {d : Datum} (h : d.isNaN = false) : Ieee.double.write d.opposite = negW (Ieee.double.write d) := by
  cases d with
  | nan => cases h
  | infinity s => exact word_neg s (by rw [di]; exact Nat.le_refl _)
  | number s m i =>
    show Ieee.double.nearest (!s) m i = negW (Ieee.double.nearest s m i)
    rw [nearest_eq, nearest_eq]
    exact word_neg s (rung_le m i)
theorem write_not_nan {d : Datum} (h : d.isNaN = false) : nanB (Ieee.double.write d) = false := by
  cases d with
  | nan => cases h
  | infinity s => show nanB (Ieee.double.word s Ieee.double.infRung) = false; rw [di]; exact (ky_inf s).2
  | number s m i => exact nan_nearest s m i
theorem div_neg {x : Nat} (y : Nat) (hx : x < 18446744073709551616) : Ieee.double.div (negW x) y = (Ieee.double.div x y).map negW := by
  unfold Format.div
  rw [read_negW hx, quot_opp]
  cases h : Datum.quotient (Ieee.double.fractionBits + 2) (Ieee.double.read x) (Ieee.double.read y) with
  | none => rfl
  | some d => simp only [Option.map_some]; rw [write_opp (quot_not_nan h)]
theorem div_neg2 (x : Nat) {y : Nat} (hy : y < 18446744073709551616) : Ieee.double.div x (negW y) = (Ieee.double.div x y).map negW := by
  unfold Format.div
  rw [read_negW hy, quot_opp2]
  cases h : Datum.quotient (Ieee.double.fractionBits + 2) (Ieee.double.read x) (Ieee.double.read y) with
  | none => rfl
  | some d => simp only [Option.map_some]; rw [write_opp (quot_not_nan h)]
theorem div_not_nan {x y r : Nat} (h : Ieee.double.div x y = some r) : nanB r = false := by
  unfold Format.div at h
  cases h2 : Datum.quotient (Ieee.double.fractionBits + 2) (Ieee.double.read x) (Ieee.double.read y) with
  | none => rw [h2] at h; cases h
  | some d => rw [h2] at h; injection h with h; rw [← h]; exact write_not_nan (quot_not_nan h2)
theorem negW_negW {x : Nat} (h : x < 18446744073709551616) : negW (negW x) = x := by
  unfold negW
  by_cases h1 : x < 9223372036854775808
  · rw [if_pos h1, if_neg (by omega)]; omega
  · rw [if_neg h1, if_pos (by omega)]; omega

/-- the floats whose double is exact -/
def Good (x : Nat) : Prop := nanB x = true ∨ (∃ s, Ieee.double.read x = .infinity s) ∨ (∃ s, Ieee.double.read x = .number s 0 (-1074)) ∨ (∃ s m i, Ieee.double.read x = .number s m i ∧ 4503599627370496 ≤ m ∧ i ≤ 900)
theorem read_rung (s : Bool) {r : Nat} (h : r < 9218868437227405312) : Ieee.double.read (Ieee.double.word s r) = if r < 4503599627370496 then .number s r (-1074) else .number s (4503599627370496 + r % 4503599627370496) (-1074 + (r / 4503599627370496 - 1 : Nat)) := by
  have e1 : Ieee.double.word s r % 9223372036854775808 = r := by
    unfold Format.word; rw [dsw]; split <;> omega
  have e2 : (Ieee.double.word s r / 9223372036854775808 % 2 == 1) = s := by
    unfold Format.word; rw [dsw]
    cases s
    · rw [if_neg (by decide)]; simp; omega
    · rw [if_pos rfl]; simp; omega
  unfold Format.read
  rw [dl, db, di, dsw]
  dsimp only
  rw [e1, e2, if_pos h]
theorem read_nearest (s : Bool) {m : Nat} {p : Int} (hm : m ≠ 0) (h0 : -1000 ≤ p + m.log2) (h1 : p + m.log2 ≤ 800) : ∃ n i, Ieee.double.read (Ieee.double.nearest s m p) = .number s n i ∧ 4503599627370496 ≤ n ∧ n < 9007199254740992 ∧ p + m.log2 - 52 ≤ i ∧ i ≤ p + m.log2 - 51 := by
  have hL : lastP m p = p + m.log2 - 52 := by unfold lastP; omega
  have k1 := kept_hi (place := p) hm
  have k2 := kept_lo (place := p) hm (by rw [hL]; omega)
  rw [nearest_eq]
  have hr : rung m p = (p + m.log2 - 52 + 1074).toNat * 4503599627370496 + kept m p := by
    unfold rung
    rw [if_neg hm, hL]
    omega
  have hb : rung m p < 9218868437227405312 := by rw [hr]; omega
  rw [read_rung s hb, if_neg (by rw [hr]; omega)]
  refine ⟨_, _, rfl, by omega, by omega, ?_, ?_⟩
  · rw [hr]; omega
  · rw [hr]; omega
theorem log2_of {m k : Nat} (h1 : 2 ^ k ≤ m) (h2 : m < 2 ^ (k + 1)) : m.log2 = k := by
  have hm : m ≠ 0 := by have := Nat.two_pow_pos k; omega
  have a := (Nat.le_log2 hm).2 h1
  have b := (Nat.log2_lt hm).2 h2
  omega
theorem log2_52 {m : Nat} (h1 : 4503599627370496 ≤ m) (h2 : m < 9007199254740992) : m.log2 = 52 := log2_of h1 h2
/-- a quotient of two usual numbers -/
theorem quot_usual {s t : Bool} {m n : Nat} {i j : Int} (hm : 4503599627370496 ≤ m) (hm2 : m < 9007199254740992) (hn : 4503599627370496 ≤ n) (hn2 : n < 9007199254740992) :
    ∃ mag, Datum.quotient 54 (.number s m i) (.number t n j) = some (.number (s ^^ t) mag (i - j - 54 - 1)) ∧ mag ≠ 0 ∧ 54 ≤ mag.log2 ∧ mag.log2 ≤ 56 := by
  simp only [Datum.quotient]
  rw [if_neg (by omega), log2_52 hm hm2, log2_52 hn hn2]
  refine ⟨_, rfl, ?_⟩
  rw [Nat.shiftLeft_eq]
  have ht := toNat_le (m * 2 ^ (54 + 52 - 52) % n != 0)
  generalize (m * 2 ^ (54 + 52 - 52) % n != 0).toNat = b at ht
  have h1 : 9007199254740992 ≤ m * 2 ^ (54 + 52 - 52) / n := by
    rw [Nat.le_div_iff_mul_le (by omega)]
    omega
  have h2 : m * 2 ^ (54 + 52 - 52) / n < 36028797018963968 := by
    rw [Nat.div_lt_iff_lt_mul (by omega)]
    omega
  generalize m * 2 ^ (54 + 52 - 52) / n = q at h1 h2
  have hz : 2 * q + b ≠ 0 := by omega
  refine ⟨hz, ?_, ?_⟩
  · rw [Nat.le_log2 hz]; omega
  · have := (Nat.log2_lt hz (k := 57)).2 (by omega)
    omega
theorem good_div {x y r : Nat} {s t : Bool} {m n : Nat} {i j : Int} (hx : Ieee.double.read x = .number s m i) (hy : Ieee.double.read y = .number t n j) (hm : 4503599627370496 ≤ m) (hn : 4503599627370496 ≤ n) (hi : -300 ≤ i ∧ i ≤ 300) (hj : -300 ≤ j ∧ j ≤ 300)
    (h : Ieee.double.div x y = some r) : Good r := by
  obtain ⟨mag, hq, h0, h1, h2⟩ := quot_usual (s := s) (t := t) (i := i) (j := j) hm (read_number hx).1 hn (read_number hy).1
  unfold Format.div at h
  rw [hx, hy, show Ieee.double.fractionBits + 2 = 54 from rfl, hq] at h
  injection h with h
  subst h
  obtain ⟨n', i', e, h3, h4, h5, h6⟩ := read_nearest (s ^^ t) (p := i - j - 54 - 1) h0 (by omega) (by omega)
  exact Or.inr (Or.inr (Or.inr ⟨_, _, _, e, h3, by omega⟩))
theorem read_foi {q : Int} (hq : q ≠ 0) (h0 : -576460752303423488 ≤ q) (h1 : q ≤ 576460752303423487) : ∃ s n i, Ieee.double.read (floatOfInt .f64 q) = .number s n i ∧ 4503599627370496 ≤ n ∧ -52 ≤ i ∧ i ≤ 10 := by
  have hz : q.natAbs ≠ 0 := by omega
  have hl : q.natAbs.log2 < 60 := (Nat.log2_lt hz).2 (by omega)
  obtain ⟨n, i, e, h3, h4, h5, h6⟩ := read_nearest (decide (q < 0)) (p := 0) hz (by omega) (by omega)
  exact ⟨_, n, i, e, h3, by omega, by omega⟩
theorem foi_zero : floatOfInt .f64 0 = 0 := by kernel_rfl
/-- doubled -/
def dblB (x : Nat) : Option Nat := Ieee.double.mul 4611686018427387904 x
theorem dbl_read {x : Nat} : ∃ j, Ieee.double.read 4611686018427387904 = .number false 4503599627370496 j ∧ j = -51 := ⟨-51, by kernel_rfl, rfl⟩
theorem dbl_div_l {x : Nat} (hx : Good x) (hn : nanB x = false) : ∃ X, dblB x = some X ∧ ((∃ s, Ieee.double.read x = .infinity s ∧ Ieee.double.read X = .infinity s) ∨ (∃ s, Ieee.double.read x = .number s 0 (-1074) ∧ Ieee.double.read X = .number s 0 (-1074)) ∨ (∃ s m i, Ieee.double.read x = .number s m i ∧ 4503599627370496 ≤ m ∧ Ieee.double.read X = .number s m (i + 1))) := by
  obtain ⟨j, hj, rfl⟩ := @dbl_read x
  unfold dblB Format.mul
  rw [hj]
  rcases hx with h | ⟨s, h⟩ | ⟨s, h⟩ | ⟨s, m, i, h, hm, hi⟩
  · rw [h] at hn; cases hn
  · refine ⟨Ieee.double.word s 9218868437227405312, ?_, Or.inl ⟨s, h, ?_⟩⟩
    · rw [h]
      simp [Datum.product]
      show Ieee.double.word s Ieee.double.infRung = _
      rw [di]
    · cases s <;> kernel_rfl
  · refine ⟨Ieee.double.word s 0, ?_, Or.inr (Or.inl ⟨s, h, ?_⟩)⟩
    · rw [h]
      simp [Datum.product]
      show Ieee.double.nearest s 0 _ = _
      rw [nearest_eq]; rfl
    · cases s <;> kernel_rfl
  · have hr := read_number h
    refine ⟨Ieee.double.nearest s (4503599627370496 * m) (-51 + i), ?_, Or.inr (Or.inr ⟨s, m, i, h, hm, ?_⟩)⟩
    · rw [h]
      simp [Datum.product]
      rfl
    · have hl : (4503599627370496 * m).log2 = 104 := log2_of (by omega) (by omega)
      have hz : 4503599627370496 * m ≠ 0 := by omega
      have hL : lastP (4503599627370496 * m) (-51 + i) = i + 1 := by unfold lastP; rw [hl]; omega
      have hk : kept (4503599627370496 * m) (-51 + i) = m := by
        unfold kept
        rw [hL, show (-51 + i - (i + 1)).toNat = 0 from by omega, show (i + 1 - (-51 + i)).toNat = 52 from by omega]
        unfold rnd
        have e1 : 4503599627370496 * m * 2 ^ 0 / 2 ^ 52 = m := by omega
        have e2 : 4503599627370496 * m * 2 ^ 0 % 2 ^ 52 = 0 := by omega
        rw [e1, e2]
        simp
      have hrg : rung (4503599627370496 * m) (-51 + i) = (i + 1 + 1074).toNat * 4503599627370496 + m := by
        unfold rung
        rw [if_neg hz, hL, hk]
        omega
      rw [nearest_eq, hrg, read_rung s (by omega), if_neg (by omega)]
      congr 1
      · omega
      · omega
theorem dbl_div {x y X Y : Nat} (hx : Good x) (hy : Good y) (nx : nanB x = false) (ny : nanB y = false) (hX : dblB x = some X) (hY : dblB y = some Y) : Ieee.double.div X Y = Ieee.double.div x y := by
  obtain ⟨X', eX, hx'⟩ := dbl_div_l hx nx
  obtain ⟨Y', eY, hy'⟩ := dbl_div_l hy ny
  rw [eX] at hX
  rw [eY] at hY
  injection hX with hX
  injection hY with hY
  subst hX hY
  unfold Format.div
  rcases hx' with ⟨s, h1, h2⟩ | ⟨s, h1, h2⟩ | ⟨s, m, i, h1, hm, h2⟩ <;> rcases hy' with ⟨t, k1, k2⟩ | ⟨t, k1, k2⟩ | ⟨t, n, j, k1, hn, k2⟩ <;> rw [h1, h2, k1, k2]
  · rfl
  · simp only [Datum.quotient]
    rw [if_neg (by omega), if_neg (by omega)]
    simp only [Option.map_some]
    have e : ∀ p, Ieee.double.write (.number (s ^^ t) (2 * (0 <<< (Ieee.double.fractionBits + 2 + n.log2 - Nat.log2 0) / n) + (0 <<< (Ieee.double.fractionBits + 2 + n.log2 - Nat.log2 0) % n != 0).toNat) p) = Ieee.double.word (s ^^ t) 0 := by
      intro p
      rw [Nat.zero_shiftLeft, Nat.zero_div, Nat.zero_mod]
      show Ieee.double.nearest (s ^^ t) 0 p = _
      rw [nearest_eq]; rfl
    rw [e, e]
  · simp only [Datum.quotient]
  · simp only [Datum.quotient, if_true]
  · simp only [Datum.quotient]
    rw [if_neg (by omega), if_neg (by omega), show i + 1 - (j + 1) = i - j from by omega]
end Go.Proofs.YtcbkgammlfjjoaaDoor
