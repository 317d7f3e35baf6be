/- Floats as whole numbers: the plain laws on how they stand. -/
import Derived.Laws.FloatArith
namespace Go.Proofs.YtcbkgammlfjjoaaDoor
set_option linter.unusedVariables false
set_option linter.unusedSimpArgs false
open Ieee

theorem dl : Ieee.double.leastPlace = -1074 := by decide
theorem db : Ieee.double.binade = 4503599627370496 := by decide
theorem di : Ieee.double.infRung = 9218868437227405312 := by decide
theorem dsw : Ieee.double.signWeight = 9223372036854775808 := by decide

theorem signed_eq (s : Bool) (m k : Nat) : signed s m k = (if s then -1 else 1) * ((m : Int) * 2 ^ k) := by
  unfold signed
  cases s <;> simp [Nat.shiftLeft_eq]
/-- more than any number -/
def big : Int := 2 ^ 2100
theorem pow_le_of {j k K : Nat} (hk : k ≤ K) (hj : 53 + K ≤ j) {m : Nat} (hm : m < 9007199254740992) : m * 2 ^ k < 2 ^ j := by
  have h1 : (2 : Nat) ^ k ≤ 2 ^ K := Nat.pow_le_pow_right (by decide) hk
  have h2 : m * 2 ^ k < 9007199254740992 * 2 ^ K := Nat.lt_of_le_of_lt (Nat.mul_le_mul_left m h1) (Nat.mul_lt_mul_of_pos_right hm (Nat.two_pow_pos _))
  have h3 : 9007199254740992 * 2 ^ K ≤ 2 ^ j := by
    rw [show (9007199254740992 : Nat) = 2 ^ 53 from by decide, ← Nat.pow_add]
    exact Nat.pow_le_pow_right (by decide) hj
  exact Nat.lt_of_lt_of_le h2 h3
theorem big_lt {m k : Nat} (hm : m < 9007199254740992) (hk : k ≤ 2045) : (m : Int) * 2 ^ k < big := by
  have h4 := pow_le_of (j := 2100) hk (by decide) hm
  unfold big
  generalize 2100 = j at h4 ⊢
  have := Int.ofNat_lt.2 h4
  rw [Int.natCast_mul, Int.natCast_pow, Int.natCast_pow] at this
  exact this
theorem big_pos : 0 < big := by
  unfold big
  exact Int.pow_pos (by decide)
attribute [irreducible] big

/-- a datum as a whole number of the least place -/
def dky : Datum → Int
  | .number s m i => (if s then -1 else 1) * ((m : Int) * 2 ^ (i + 1074).toNat)
  | .infinity s => (if s then -1 else 1) * big
  | .nan .. => 0
def ky (b : Nat) : Int := dky (Ieee.double.read b)
def nanB (b : Nat) : Bool := (Ieee.double.read b).isNaN

theorem read_number {b : Nat} {s : Bool} {m : Nat} {i : Int} (h : Ieee.double.read b = .number s m i) : m < 9007199254740992 ∧ -1074 ≤ i ∧ i ≤ 971 := by
  unfold Format.read at h
  rw [dl, db, di, dsw] at h
  dsimp only at h
  have h0 : b % 9223372036854775808 < 9223372036854775808 := Nat.mod_lt _ (by decide)
  generalize b % 9223372036854775808 = r at h h0
  split at h
  · injection h with h1 h2 h3
    omega
  · split at h
    · injection h with h1 h2 h3
      omega
    · split at h <;> cases h

theorem fcmp_eq (a b a' b' : Int) (h1 : a < b ↔ a' < b') (h2 : a = b ↔ a' = b') : compare a b = compare a' b' := by
  show compareOfLessAndEq a b = compareOfLessAndEq a' b'
  unfold compareOfLessAndEq
  simp only [h1, h2]
theorem fcmp_lt {a b : Int} : compare a b = .lt ↔ a < b := by
  show compareOfLessAndEq a b = .lt ↔ _
  unfold compareOfLessAndEq
  split
  · simp [*]
  · split <;> simp [*]
theorem fcmp_gt {a b : Int} : compare a b = .gt ↔ b < a := by
  show compareOfLessAndEq a b = .gt ↔ _
  unfold compareOfLessAndEq
  split
  · simp; omega
  · split
    · simp; omega
    · simp; omega
theorem fcmp_self {a b : Int} : compare a b = .eq ↔ a = b := by
  show compareOfLessAndEq a b = .eq ↔ _
  unfold compareOfLessAndEq
  split
  · simp; omega
  · split <;> simp [*]

theorem order_ky {a b : Nat} (ha : nanB a = false) (hb : nanB b = false) : Ieee.double.order a b = some (compare (ky a) (ky b)) := by
  unfold nanB at ha hb
  unfold Format.order ky
  have ra := @read_number a
  have rb := @read_number b
  generalize Ieee.double.read a = x at ha ra
  generalize Ieee.double.read b = y at hb rb
  have hbp := big_pos
  cases x with
  | nan s f => cases ha
  | infinity s =>
    cases y with
    | nan t f => cases hb
    | infinity t =>
      cases s <;> cases t
      · show some (compare 0 0) = some (compare (1 * big) (1 * big))
        rw [fcmp_self.2 rfl]; rfl
      · show some (compare 1 0) = some (compare (1 * big) (-1 * big))
        rw [fcmp_gt.2 (by omega)]; rfl
      · show some (compare 0 1) = some (compare (-1 * big) (1 * big))
        rw [fcmp_lt.2 (by omega)]; rfl
      · show some (compare 1 1) = some (compare (-1 * big) (-1 * big))
        rw [fcmp_self.2 rfl]; rfl
    | number t n j =>
      have h1 := rb rfl
      have h2 := big_lt (k := (j + 1074).toNat) h1.1 (by omega)
      have h3 : (0 : Int) ≤ (n : Int) * 2 ^ (j + 1074).toNat := Int.mul_nonneg (by omega) (Int.le_of_lt (Int.pow_pos (by decide)))
      show some (if s then Ordering.lt else .gt) = some (compare ((if s then -1 else 1) * big) ((if t then -1 else 1) * ((n : Int) * 2 ^ (j + 1074).toNat)))
      generalize (n : Int) * 2 ^ (j + 1074).toNat = z at h2 h3
      cases s <;> cases t <;> simp only [Bool.false_eq_true, if_true, if_false]
      · rw [fcmp_gt.2 (by omega)]
      · rw [fcmp_gt.2 (by omega)]
      · rw [fcmp_lt.2 (by omega)]
      · rw [fcmp_lt.2 (by omega)]
  | number s m i =>
    have g1 := ra rfl
    have g2 := big_lt (k := (i + 1074).toNat) g1.1 (by omega)
    have g3 : (0 : Int) ≤ (m : Int) * 2 ^ (i + 1074).toNat := Int.mul_nonneg (by omega) (Int.le_of_lt (Int.pow_pos (by decide)))
    cases y with
    | nan t f => cases hb
    | infinity t =>
      show some (if t then Ordering.gt else .lt) = some (compare ((if s then -1 else 1) * ((m : Int) * 2 ^ (i + 1074).toNat)) ((if t then -1 else 1) * big))
      generalize (m : Int) * 2 ^ (i + 1074).toNat = z at g2 g3
      cases s <;> cases t <;> simp only [Bool.false_eq_true, if_true, if_false]
      · rw [fcmp_lt.2 (by omega)]
      · rw [fcmp_gt.2 (by omega)]
      · rw [fcmp_lt.2 (by omega)]
      · rw [fcmp_gt.2 (by omega)]
    | number t n j =>
      have h1 := rb rfl
      show some (compare (signed s m (i - min i j).toNat) (signed t n (j - min i j).toNat)) = some (compare ((if s then -1 else 1) * ((m : Int) * 2 ^ (i + 1074).toNat)) ((if t then -1 else 1) * ((n : Int) * 2 ^ (j + 1074).toNat)))
      rw [signed_eq, signed_eq]
      have e1 : (i + 1074).toNat = (i - min i j).toNat + (min i j + 1074).toNat := by omega
      have e2 : (j + 1074).toNat = (j - min i j).toNat + (min i j + 1074).toNat := by omega
      rw [e1, e2, Int.pow_add, Int.pow_add]
      have hc : (0 : Int) < 2 ^ (min i j + 1074).toNat := Int.pow_pos (by decide)
      generalize (2 : Int) ^ (min i j + 1074).toNat = c at hc
      generalize (2 : Int) ^ (i - min i j).toNat = p
      generalize (2 : Int) ^ (j - min i j).toNat = q
      generalize (if s = true then (-1 : Int) else 1) = u
      generalize (if t = true then (-1 : Int) else 1) = v
      congr 1
      have f1 : u * (↑m * (p * c)) = (u * (↑m * p)) * c := by ac_rfl
      have f2 : v * (↑n * (q * c)) = (v * (↑n * q)) * c := by ac_rfl
      rw [f1, f2]
      refine fcmp_eq _ _ _ _ ⟨fun h => Int.mul_lt_mul_of_pos_right h hc, fun h => Int.lt_of_mul_lt_mul_right h (Int.le_of_lt hc)⟩ ⟨fun h => by rw [h], fun h => Int.eq_of_mul_eq_mul_right (Int.ne_of_gt hc) h⟩
theorem order_nan {a b : Nat} (h : nanB a = true ∨ nanB b = true) : Ieee.double.order a b = none := by
  unfold nanB at h
  unfold Format.order
  generalize Ieee.double.read a = x at h
  generalize Ieee.double.read b = y at h
  rcases h with h | h
  · cases x <;> first | (cases h; done) | (cases y <;> rfl)
  · cases y <;> first | (cases h; done) | (cases x <;> rfl)
/-- the tests, plainly -/
def ltB (a b : Nat) : Bool := !nanB a && (!nanB b && decide (ky a < ky b))
def eqB (a b : Nat) : Bool := !nanB a && (!nanB b && decide (ky a = ky b))
theorem order_lt (a b : Nat) : (Ieee.double.order a b == some .lt) = ltB a b := by
  unfold ltB
  cases ha : nanB a
  · cases hb : nanB b
    · rw [order_ky ha hb, Bool.eq_iff_iff]
      simp [fcmp_lt]
    · rw [order_nan (Or.inr hb)]; rfl
  · rw [order_nan (Or.inl ha)]; rfl
theorem order_gt (a b : Nat) : (Ieee.double.order a b == some .gt) = ltB b a := by
  unfold ltB
  cases ha : nanB a
  · cases hb : nanB b
    · rw [order_ky ha hb, Bool.eq_iff_iff]
      simp [fcmp_gt]
    · rw [order_nan (Or.inr hb)]; rfl
  · rw [order_nan (Or.inl ha)]; simp
theorem order_eq (a b : Nat) : (Ieee.double.order a b == some .eq) = eqB a b := by
  unfold eqB
  cases ha : nanB a
  · cases hb : nanB b
    · rw [order_ky ha hb, Bool.eq_iff_iff]
      simp [fcmp_self]
    · rw [order_nan (Or.inr hb)]; rfl
  · rw [order_nan (Or.inl ha)]; rfl
theorem order_ne (a b : Nat) : (Ieee.double.order a b != some .eq) = !eqB a b := by
  rw [← order_eq]; rfl
theorem eqB_self (a : Nat) : eqB a a = !nanB a := by
  unfold eqB
  cases nanB a <;> simp
/-- a word's kind -/
theorem read_sign {b : Nat} (h : b < 18446744073709551616) : (Ieee.double.read b).neg = decide (9223372036854775808 ≤ b) := by
  have e : (b / 9223372036854775808 % 2 == 1) = decide (9223372036854775808 ≤ b) := by
    rw [Bool.eq_iff_iff]; simp; omega
  unfold Format.read
  rw [dl, db, di, dsw]
  dsimp only
  rw [e]
  split
  · rfl
  · split
    · rfl
    · split <;> rfl
theorem ky_zero {b : Nat} (h : b < 18446744073709551616) (hn : nanB b = false) (h0 : ky b = 0) : b = 0 ∨ b = 9223372036854775808 := by
  unfold ky at h0
  unfold nanB at hn
  have hbp := big_pos
  have hr : Ieee.double.read b = Ieee.double.read b := rfl
  conv at hr => rhs; unfold Format.read
  rw [dl, db, di, dsw] at hr
  dsimp only at hr
  split at hr
  · rename_i hlt
    rw [hr] at h0
    simp only [dky, show ((-1074 : Int) + 1074).toNat = 0 from rfl, Int.pow_zero, Int.mul_one] at h0
    have : b % 9223372036854775808 = 0 := by
      split at h0 <;> omega
    omega
  · split at hr
    · rename_i h1 h2
      rw [hr] at h0
      simp only [dky] at h0
      exfalso
      have hp : (0 : Int) < 2 ^ ((-1074 : Int) + ((b % 9223372036854775808 / 4503599627370496 - 1 : Nat) : Int) + 1074).toNat := Int.pow_pos (by decide)
      generalize (2 : Int) ^ ((-1074 : Int) + ((b % 9223372036854775808 / 4503599627370496 - 1 : Nat) : Int) + 1074).toNat = z at h0 hp
      generalize hM : (((4503599627370496 + b % 9223372036854775808 % 4503599627370496 : Nat)) : Int) = M at h0
      have hM2 : 0 < M := by omega
      have := Int.mul_pos hM2 hp
      generalize M * z = y at h0 this
      split at h0 <;> omega
    · split at hr
      · rw [hr] at h0
        simp only [dky] at h0
        exfalso
        split at h0 <;> omega
      · rw [hr] at hn
        cases hn
theorem ky_sign {b : Nat} (h : b < 18446744073709551616) (hn : nanB b = false) : (9223372036854775808 ≤ b → ky b ≤ 0) ∧ (b < 9223372036854775808 → 0 ≤ ky b) := by
  have hs := read_sign h
  unfold ky
  unfold nanB at hn
  have hbp := big_pos
  generalize Ieee.double.read b = x at hs hn
  cases x with
  | nan s f => cases hn
  | infinity s =>
    cases s
    · have : ¬ 9223372036854775808 ≤ b := by simpa [Datum.neg] using hs
      exact ⟨fun hc => absurd hc this, fun _ => by simp only [dky]; simp; omega⟩
    · have : 9223372036854775808 ≤ b := by simpa [Datum.neg] using hs
      exact ⟨fun _ => by simp only [dky]; simp; omega, fun hc => by omega⟩
  | number s m i =>
    have h3 : (0 : Int) ≤ (m : Int) * 2 ^ (i + 1074).toNat := Int.mul_nonneg (by omega) (Int.le_of_lt (Int.pow_pos (by decide)))
    cases s
    · have : ¬ 9223372036854775808 ≤ b := by simpa [Datum.neg] using hs
      exact ⟨fun hc => absurd hc this, fun _ => by simp only [dky]; generalize (m : Int) * 2 ^ (i + 1074).toNat = z at h3; simp; omega⟩
    · have : 9223372036854775808 ≤ b := by simpa [Datum.neg] using hs
      exact ⟨fun _ => by simp only [dky]; generalize (m : Int) * 2 ^ (i + 1074).toNat = z at h3; simp; omega, fun hc => by omega⟩
end Go.Proofs.YtcbkgammlfjjoaaDoor
