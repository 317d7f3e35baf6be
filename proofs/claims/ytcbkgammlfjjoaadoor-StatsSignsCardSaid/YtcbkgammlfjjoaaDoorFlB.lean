/- Floats as whole numbers: rounding, and that it turns no order. -/
import Derived.Test.YtcbkgammlfjjoaaDoorFlA
namespace Go.Proofs.YtcbkgammlfjjoaaDoor
set_option linter.unusedVariables false
set_option linter.unusedSimpArgs false
open Ieee

/-- 'n / g', rounded to the nearest, ties to even -/
def rnd (n g : Nat) : Nat := n / g + (decide (g < 2 * (n % g)) || (g == 2 * (n % g) && n / g % 2 == 1)).toNat
theorem rnd_scale (n g c : Nat) (hc : 0 < c) : rnd (n * c) (g * c) = rnd n g := by
  unfold rnd
  rw [Nat.mul_div_mul_right _ _ hc, Nat.mul_mod_mul_right]
  have e1 : decide (g * c < 2 * (n % g * c)) = decide (g < 2 * (n % g)) := by
    rw [decide_eq_decide, ← Nat.mul_assoc]
    exact Nat.mul_lt_mul_right hc
  have e2 : (g * c == 2 * (n % g * c)) = (g == 2 * (n % g)) := by
    rw [Bool.eq_iff_iff, beq_iff_eq, beq_iff_eq, ← Nat.mul_assoc]
    exact Nat.mul_right_cancel_iff hc
  rw [e1, e2]
theorem rnd_lo (n g : Nat) : n / g ≤ rnd n g := by unfold rnd; omega
theorem toNat_le (b : Bool) : b.toNat ≤ 1 := by cases b <;> decide
theorem rnd_hi (n g : Nat) : rnd n g ≤ n / g + 1 := by
  unfold rnd
  have := toNat_le (decide (g < 2 * (n % g)) || (g == 2 * (n % g) && n / g % 2 == 1))
  omega
theorem rnd_mono {n n' g : Nat} (hg : 0 < g) (h : n ≤ n') : rnd n g ≤ rnd n' g := by
  have h1 : n / g ≤ n' / g := Nat.div_le_div_right h
  by_cases he : n / g = n' / g
  · have d1 := Nat.div_add_mod n g
    have d2 := Nat.div_add_mod n' g
    rw [he] at d1
    have hr : n % g ≤ n' % g := by omega
    unfold rnd
    rw [he]
    refine Nat.add_le_add_left ?_ _
    by_cases hb : (decide (g < 2 * (n % g)) || (g == 2 * (n % g) && n' / g % 2 == 1)) = true
    · have hb' : (decide (g < 2 * (n' % g)) || (g == 2 * (n' % g) && n' / g % 2 == 1)) = true := by
        simp only [Bool.or_eq_true, Bool.and_eq_true, decide_eq_true_eq, beq_iff_eq] at hb ⊢
        by_cases hq : n % g = n' % g
        · rw [← hq]; exact hb
        · omega
      rw [hb']; exact toNat_le _
    · rw [Bool.not_eq_true] at hb
      rw [hb]; exact Nat.zero_le _
  · have := rnd_hi n g
    have := rnd_lo n' g
    omega
theorem cut_eq (neg : Bool) (n drop : Nat) : Toward.cut .even neg n drop = rnd n (2 ^ drop) := by
  unfold Toward.cut rnd
  dsimp only
  by_cases h : drop ≤ n.log2 + 2
  · rw [Nat.min_eq_left h, Nat.one_shiftLeft]
  · rw [Nat.min_eq_right (by omega), Nat.one_shiftLeft]
    have hn : n < 2 ^ (n.log2 + 1) := Nat.lt_log2_self
    have h1 : 2 ^ (n.log2 + 2) = 2 * 2 ^ (n.log2 + 1) := by rw [Nat.pow_succ, Nat.mul_comm]
    have h2 : 2 ^ (n.log2 + 2) ≤ 2 ^ drop := Nat.pow_le_pow_right (by decide) (by omega)
    generalize 2 ^ (n.log2 + 2) = a at h1 h2
    generalize 2 ^ (n.log2 + 1) = b at hn h1
    generalize 2 ^ drop = c at h2
    have q1 : n / a = 0 := Nat.div_eq_of_lt (by omega)
    have q2 : n / c = 0 := Nat.div_eq_of_lt (by omega)
    have q3 : n % a = n := Nat.mod_eq_of_lt (by omega)
    have q4 : n % c = n := Nat.mod_eq_of_lt (by omega)
    rw [q1, q2, q3, q4]
    have e1 : decide (a < 2 * n) = false := by rw [decide_eq_false_iff_not]; omega
    have e2 : decide (c < 2 * n) = false := by rw [decide_eq_false_iff_not]; omega
    simp [e1, e2]
theorem cut_zero (neg : Bool) (n drop : Nat) : Toward.cut .zero neg n drop = n / 2 ^ drop := by
  unfold Toward.cut
  dsimp only
  by_cases h : drop ≤ n.log2 + 2
  · rw [Nat.min_eq_left h, Nat.one_shiftLeft]; simp
  · rw [Nat.min_eq_right (by omega), Nat.one_shiftLeft]
    have hn : n < 2 ^ (n.log2 + 1) := Nat.lt_log2_self
    have h1 : 2 ^ (n.log2 + 2) = 2 * 2 ^ (n.log2 + 1) := by rw [Nat.pow_succ, Nat.mul_comm]
    have h2 : 2 ^ (n.log2 + 2) ≤ 2 ^ drop := Nat.pow_le_pow_right (by decide) (by omega)
    generalize 2 ^ (n.log2 + 2) = a at h1 h2
    generalize 2 ^ (n.log2 + 1) = b at hn h1
    generalize 2 ^ drop = c at h2
    rw [Nat.div_eq_of_lt (by omega), Nat.div_eq_of_lt (by omega)]
    rfl

/-- the place of the last digit that is kept -/
def lastP (mag : Nat) (place : Int) : Int := max (place + mag.log2 - 52) (-1074)
def kept (mag : Nat) (place : Int) : Nat := rnd (mag * 2 ^ (place - lastP mag place).toNat) (2 ^ (lastP mag place - place).toNat)
/-- the rung of a magnitude -/
def rung (mag : Nat) (place : Int) : Nat := if mag = 0 then 0 else min ((lastP mag place + 1074).toNat * 4503599627370496 + kept mag place) 9218868437227405312
theorem nearest_eq (neg : Bool) (mag : Nat) (place : Int) : Ieee.double.nearest neg mag place = Ieee.double.word neg (rung mag place) := by
  unfold Format.nearest rung
  split
  · rfl
  · dsimp only
    rw [dl, db, di, cut_eq, Nat.shiftLeft_eq]
    rfl
theorem rung_le (mag : Nat) (place : Int) : rung mag place ≤ 9218868437227405312 := by
  unfold rung
  split <;> omega
theorem kept_hi {mag : Nat} {place : Int} (h : mag ≠ 0) : kept mag place ≤ 9007199254740992 := by
  unfold kept
  have hn : mag < 2 ^ (mag.log2 + 1) := Nat.lt_log2_self
  have hL : place + mag.log2 - 52 ≤ lastP mag place := by unfold lastP; omega
  generalize lastP mag place = L at hL
  have h1 : mag * 2 ^ (place - L).toNat < 9007199254740992 * 2 ^ (L - place).toNat := by
    have e : 2 ^ (mag.log2 + 1) * 2 ^ (place - L).toNat ≤ 2 ^ 53 * 2 ^ (L - place).toNat := by
      rw [← Nat.pow_add, ← Nat.pow_add]
      exact Nat.pow_le_pow_right (by decide) (by omega)
    have f : mag * 2 ^ (place - L).toNat < 2 ^ (mag.log2 + 1) * 2 ^ (place - L).toNat := Nat.mul_lt_mul_of_pos_right hn (Nat.two_pow_pos _)
    exact Nat.lt_of_lt_of_le f e
  have h2 := rnd_hi (mag * 2 ^ (place - L).toNat) (2 ^ (L - place).toNat)
  have h3 : mag * 2 ^ (place - L).toNat / 2 ^ (L - place).toNat < 9007199254740992 := Nat.div_lt_of_lt_mul (by rw [Nat.mul_comm (2 ^ _)]; exact h1)
  omega
theorem kept_lo {mag : Nat} {place : Int} (h : mag ≠ 0) (hl : -1074 < lastP mag place) : 4503599627370496 ≤ kept mag place := by
  unfold kept
  have hn : 2 ^ mag.log2 ≤ mag := Nat.log2_self_le h
  have hL : place + mag.log2 - 52 = lastP mag place := by unfold lastP at hl ⊢; omega
  generalize lastP mag place = L at hL
  have h1 : 4503599627370496 * 2 ^ (L - place).toNat ≤ mag * 2 ^ (place - L).toNat := by
    have e : 2 ^ 52 * 2 ^ (L - place).toNat ≤ 2 ^ mag.log2 * 2 ^ (place - L).toNat := by
      rw [← Nat.pow_add, ← Nat.pow_add]
      exact Nat.pow_le_pow_right (by decide) (by omega)
    exact Nat.le_trans e (Nat.mul_le_mul_right _ hn)
  have h2 := rnd_lo (mag * 2 ^ (place - L).toNat) (2 ^ (L - place).toNat)
  have h3 : 4503599627370496 ≤ mag * 2 ^ (place - L).toNat / 2 ^ (L - place).toNat := (Nat.le_div_iff_mul_le (Nat.two_pow_pos _)).2 h1
  omega
theorem kept_wide {mag : Nat} {place : Int} {L : Int} (hp : -3000 ≤ place) (hL : lastP mag place = L) : kept mag place = rnd (mag * 2 ^ (place + 3000).toNat) (2 ^ (L + 3000).toNat) := by
  have hl : -1074 ≤ L := by unfold lastP at hL; omega
  unfold kept
  rw [hL]
  rw [← rnd_scale _ _ (2 ^ (min place L + 3000).toNat) (Nat.two_pow_pos _), Nat.mul_assoc, ← Nat.pow_add, ← Nat.pow_add]
  congr 2
  · congr 1
    omega
  · congr 1
    omega
/-- ROUNDING TURNS NO ORDER -/
theorem rung_mono {m1 m2 : Nat} {p1 p2 : Int} (h1 : -3000 ≤ p1) (h2 : -3000 ≤ p2) (h : m1 * 2 ^ (p1 + 3000).toNat ≤ m2 * 2 ^ (p2 + 3000).toNat) : rung m1 p1 ≤ rung m2 p2 := by
  by_cases hz : m1 = 0
  · unfold rung; rw [if_pos hz]; exact Nat.zero_le _
  · have hz2 : m2 ≠ 0 := by
      intro h0
      rw [h0, Nat.zero_mul] at h
      have := Nat.mul_pos (Nat.pos_of_ne_zero hz) (Nat.two_pow_pos (p1 + 3000).toNat)
      omega
    have hlog : m1.log2 + (p1 + 3000).toNat ≤ m2.log2 + (p2 + 3000).toNat := by
      have a1 : 2 ^ m1.log2 ≤ m1 := Nat.log2_self_le hz
      have a2 : m2 < 2 ^ (m2.log2 + 1) := Nat.lt_log2_self
      have a3 : 2 ^ m1.log2 * 2 ^ (p1 + 3000).toNat ≤ m1 * 2 ^ (p1 + 3000).toNat := Nat.mul_le_mul_right _ a1
      have a4 : m2 * 2 ^ (p2 + 3000).toNat < 2 ^ (m2.log2 + 1) * 2 ^ (p2 + 3000).toNat := Nat.mul_lt_mul_of_pos_right a2 (Nat.two_pow_pos _)
      rw [← Nat.pow_add] at a3 a4
      have a5 : 2 ^ (m1.log2 + (p1 + 3000).toNat) < 2 ^ (m2.log2 + 1 + (p2 + 3000).toNat) := by omega
      have := (Nat.pow_lt_pow_iff_right (by decide : 1 < 2)).1 a5
      omega
    have hL : lastP m1 p1 ≤ lastP m2 p2 := by unfold lastP; omega
    unfold rung
    rw [if_neg hz, if_neg hz2]
    have hl1 : -1074 ≤ lastP m1 p1 := by unfold lastP; omega
    have hk1 := kept_hi (place := p1) hz
    by_cases he : lastP m1 p1 = lastP m2 p2
    · have k1 := kept_wide (L := lastP m1 p1) h1 rfl
      have k2 := kept_wide (L := lastP m1 p1) h2 he.symm
      have := rnd_mono (Nat.two_pow_pos (lastP m1 p1 + 3000).toNat) h
      rw [← k1, ← k2] at this
      clear k1 k2 h hlog
      rw [← he]
      omega
    · have hk2 := kept_lo hz2 (show -1074 < lastP m2 p2 by omega)
      clear h hlog
      omega
/-- what a rung stands for -/
def rval (r : Nat) : Int := if r < 4503599627370496 then r else if r < 9218868437227405312 then (4503599627370496 + r % 4503599627370496 : Nat) * 2 ^ (r / 4503599627370496 - 1) else big
theorem rval_mono {r t : Nat} (h : r ≤ t) (ht : t ≤ 9218868437227405312) : rval r ≤ rval t := by
  have hp : ∀ k : Nat, (1 : Int) ≤ 2 ^ k := fun k => by have : (0 : Int) < 2 ^ k := Int.pow_pos (by decide); omega
  unfold rval
  by_cases h1 : t < 4503599627370496
  · rw [if_pos (by omega), if_pos h1]; omega
  · rw [if_neg h1]
    by_cases h2 : t < 9218868437227405312
    · rw [if_pos h2]
      by_cases h3 : r < 4503599627370496
      · rw [if_pos h3]
        have := Int.mul_le_mul_of_nonneg_left (hp (t / 4503599627370496 - 1)) (show (0 : Int) ≤ ((4503599627370496 + t % 4503599627370496 : Nat) : Int) by omega)
        omega
      · rw [if_neg h3, if_pos (by omega)]
        by_cases he : r / 4503599627370496 = t / 4503599627370496
        · rw [he]
          refine Int.mul_le_mul_of_nonneg_right ?_ (by have := hp (t / 4503599627370496 - 1); omega)
          omega
        · have e1 : ((4503599627370496 + r % 4503599627370496 : Nat) : Int) * 2 ^ (r / 4503599627370496 - 1) ≤ 9007199254740992 * 2 ^ (r / 4503599627370496 - 1) :=
            Int.mul_le_mul_of_nonneg_right (by omega) (by have := hp (r / 4503599627370496 - 1); omega)
          have e2 : (4503599627370496 : Int) * 2 ^ (t / 4503599627370496 - 1) ≤ ((4503599627370496 + t % 4503599627370496 : Nat) : Int) * 2 ^ (t / 4503599627370496 - 1) :=
            Int.mul_le_mul_of_nonneg_right (by omega) (by have := hp (t / 4503599627370496 - 1); omega)
          have e3 : (9007199254740992 : Int) * 2 ^ (r / 4503599627370496 - 1) ≤ 4503599627370496 * 2 ^ (t / 4503599627370496 - 1) := by
            obtain ⟨d, hd⟩ : ∃ d, t / 4503599627370496 - 1 = (r / 4503599627370496 - 1) + 1 + d := ⟨t / 4503599627370496 - r / 4503599627370496 - 1, by omega⟩
            rw [hd, Int.pow_add, Int.pow_succ]
            have := hp d
            have q := hp (r / 4503599627370496 - 1)
            generalize (2 : Int) ^ (r / 4503599627370496 - 1) = x at q
            have := Int.mul_le_mul_of_nonneg_left (hp d) (show (0 : Int) ≤ x * 2 by omega)
            generalize x * 2 * 2 ^ d = y at this
            omega
          omega
    · rw [if_neg h2]
      by_cases h3 : r < 4503599627370496
      · rw [if_pos h3]
        have := big_lt (m := r) (k := 0) (by omega) (by omega)
        simpa using Int.le_of_lt this
      · rw [if_neg h3]
        by_cases h4 : r < 9218868437227405312
        · rw [if_pos h4]
          exact Int.le_of_lt (big_lt (by omega) (by omega))
        · rw [if_neg h4]; exact Int.le_refl _
theorem rval_nonneg (r : Nat) : 0 ≤ rval r := by
  have hp : ∀ k : Nat, (0 : Int) < 2 ^ k := fun k => Int.pow_pos (by decide)
  have := big_pos
  unfold rval
  split
  · omega
  · split
    · exact Int.mul_nonneg (by omega) (Int.le_of_lt (hp _))
    · omega
theorem read_word (s : Bool) {r : Nat} (h : r ≤ 9218868437227405312) : dky (Ieee.double.read (Ieee.double.word s r)) = (if s then -1 else 1) * rval r ∧ (Ieee.double.read (Ieee.double.word s r)).isNaN = false := by
  have e1 : Ieee.double.word s r % 9223372036854775808 = r := by
    unfold Format.word; rw [dsw]; split <;> omega
  have e2 : (Ieee.double.word s r / 9223372036854775808 % 2 == 1) = s := by
    unfold Format.word; rw [dsw]
    cases s
    · rw [if_neg (by decide)]; simp; omega
    · rw [if_pos rfl]; simp; omega
  unfold Format.read
  rw [dl, db, di, dsw]
  dsimp only
  rw [e1, e2]
  unfold rval
  by_cases h1 : r < 4503599627370496
  · rw [if_pos h1, if_pos h1]
    exact ⟨by simp only [dky]; rw [show ((-1074 : Int) + 1074).toNat = 0 from rfl, Int.pow_zero, Int.mul_one], rfl⟩
  · rw [if_neg h1, if_neg h1]
    by_cases h2 : r < 9218868437227405312
    · rw [if_pos h2, if_pos h2]
      refine ⟨?_, rfl⟩
      simp only [dky]
      rw [show ((-1074 : Int) + ((r / 4503599627370496 - 1 : Nat) : Int) + 1074).toNat = r / 4503599627370496 - 1 from by omega]
    · rw [if_neg h2, if_neg h2, if_pos (by omega)]
      exact ⟨rfl, rfl⟩
theorem ky_nearest (s : Bool) (m : Nat) (p : Int) : ky (Ieee.double.nearest s m p) = (if s then -1 else 1) * rval (rung m p) := by
  rw [nearest_eq]; exact (read_word s (rung_le m p)).1
theorem nan_nearest (s : Bool) (m : Nat) (p : Int) : nanB (Ieee.double.nearest s m p) = false := by
  rw [nearest_eq]; exact (read_word s (rung_le m p)).2
theorem rval_inf : rval 9218868437227405312 = big := by unfold rval; rw [if_neg (by decide), if_neg (by decide)]
theorem ky_inf (s : Bool) : ky (Ieee.double.word s 9218868437227405312) = (if s then -1 else 1) * big ∧ nanB (Ieee.double.word s 9218868437227405312) = false := by
  have := read_word s (Nat.le_refl 9218868437227405312)
  rw [rval_inf] at this; exact this
theorem rval_le_big {r : Nat} (hr : r ≤ 9218868437227405312) : rval r ≤ big := by
  have := rval_mono hr (Nat.le_refl _)
  rwa [rval_inf] at this
/-- a datum times a positive number, written -/
def timesW (n : Nat) (j : Int) : Datum → Nat
  | .number s m i => Ieee.double.nearest s (m * n) (i + j)
  | .infinity s => Ieee.double.word s 9218868437227405312
  | .nan .. => 0
theorem mul_pos_word {x c n : Nat} {j : Int} (hc : Ieee.double.read c = .number false n j) (hn : n ≠ 0) (hx : nanB x = false) : Ieee.double.mul x c = some (timesW n j (Ieee.double.read x)) := by
  unfold nanB at hx
  unfold Format.mul
  rw [hc]
  generalize Ieee.double.read x = X at hx
  cases X with
  | nan => cases hx
  | infinity s =>
    show Option.map _ (if n = 0 then none else some (Datum.infinity (s ^^ false))) = _
    rw [if_neg hn, Bool.xor_false, Option.map_some]
    show some (Ieee.double.word s Ieee.double.infRung) = _
    rw [di]; rfl
  | number s m i =>
    show Option.map _ (some (Datum.number (s ^^ false) (m * n) (i + j))) = _
    rw [Bool.xor_false]; rfl
theorem sgn_mono {s t : Bool} {a b a' b' : Int} (ha : 0 ≤ a) (hb : 0 ≤ b) (ha' : 0 ≤ a') (hb' : 0 ≤ b') (h1 : a ≤ b → a' ≤ b') (h2 : b ≤ a → b' ≤ a') (hz : a = 0 → a' = 0) (hz2 : b = 0 → b' = 0) (h : (if s then -1 else 1) * a ≤ (if t then -1 else 1) * b) :
    (if s then -1 else 1) * a' ≤ (if t then -1 else 1) * b' := by
  cases s <;> cases t <;> simp at h ⊢
  · exact h1 (by omega)
  · have := hz (by omega); have := hz2 (by omega); omega
  · omega
  · have := h2 (by omega); omega
/-- products by a positive number turn no order -/
theorem times_mono {x y n : Nat} {j : Int} (hn : n ≠ 0) (hj : -1074 ≤ j) (hx : nanB x = false) (hy : nanB y = false) (h : ky x ≤ ky y) :
    ky (timesW n j (Ieee.double.read x)) ≤ ky (timesW n j (Ieee.double.read y)) := by
  unfold nanB at hx hy
  unfold ky at h
  have rx := @read_number x
  have ry := @read_number y
  generalize Ieee.double.read x = X at hx h rx
  generalize Ieee.double.read y = Y at hy h ry
  have hbp := big_pos
  cases X with
  | nan => cases hx
  | infinity s =>
    cases Y with
    | nan => cases hy
    | infinity t =>
      simp only [timesW, (ky_inf _).1]
      simp only [dky] at h
      exact h
    | number t m i =>
      simp only [timesW, (ky_inf _).1, ky_nearest]
      simp only [dky] at h
      have g1 := rval_le_big (rung_le (m * n) (i + j))
      have g2 := rval_nonneg (rung (m * n) (i + j))
      have r := ry rfl
      have g3 := big_lt (k := (i + 1074).toNat) r.1 (by omega)
      have g4 : (0 : Int) ≤ (m : Int) * 2 ^ (i + 1074).toNat := Int.mul_nonneg (by omega) (Int.le_of_lt (Int.pow_pos (by decide)))
      generalize rval (rung (m * n) (i + j)) = z at g1 g2
      generalize (m : Int) * 2 ^ (i + 1074).toNat = u at h g3 g4
      cases s <;> cases t <;> simp at h ⊢ <;> omega
  | number s m i =>
    have r := rx rfl
    have g3 := big_lt (k := (i + 1074).toNat) r.1 (by omega)
    have g4 : (0 : Int) ≤ (m : Int) * 2 ^ (i + 1074).toNat := Int.mul_nonneg (by omega) (Int.le_of_lt (Int.pow_pos (by decide)))
    cases Y with
    | nan => cases hy
    | infinity t =>
      simp only [timesW, (ky_inf _).1, ky_nearest]
      simp only [dky] at h
      have g1 := rval_le_big (rung_le (m * n) (i + j))
      have g2 := rval_nonneg (rung (m * n) (i + j))
      generalize rval (rung (m * n) (i + j)) = z at g1 g2
      generalize (m : Int) * 2 ^ (i + 1074).toNat = u at h g3 g4
      cases s <;> cases t <;> simp at h ⊢ <;> omega
    | number t m' i' =>
      have r' := ry rfl
      have g4' : (0 : Int) ≤ (m' : Int) * 2 ^ (i' + 1074).toNat := Int.mul_nonneg (by omega) (Int.le_of_lt (Int.pow_pos (by decide)))
      simp only [timesW, ky_nearest]
      simp only [dky] at h
      have hmono : ∀ (a b : Nat) (p q : Int), -1074 ≤ p → -1074 ≤ q → (a : Int) * 2 ^ (p + 1074).toNat ≤ (b : Int) * 2 ^ (q + 1074).toNat → rval (rung (a * n) (p + j)) ≤ rval (rung (b * n) (q + j)) := by
        intro a b p q hp hq hab
        have hab' : a * 2 ^ (p + 1074).toNat ≤ b * 2 ^ (q + 1074).toNat := by
          have q1 : ((a * 2 ^ (p + 1074).toNat : Nat) : Int) ≤ ((b * 2 ^ (q + 1074).toNat : Nat) : Int) := by rw [Int.natCast_mul, Int.natCast_mul, Int.natCast_pow, Int.natCast_pow]; exact hab
          exact Int.ofNat_le.1 q1
        refine rval_mono (rung_mono (by omega) (by omega) ?_) (rung_le _ _)
        have e1 : (p + j + 3000).toNat = (p + 1074).toNat + (j + 1926).toNat := by omega
        have e2 : (q + j + 3000).toNat = (q + 1074).toNat + (j + 1926).toNat := by omega
        rw [e1, e2, Nat.pow_add, Nat.pow_add]
        have f1 : a * n * (2 ^ (p + 1074).toNat * 2 ^ (j + 1926).toNat) = (a * 2 ^ (p + 1074).toNat) * (n * 2 ^ (j + 1926).toNat) := by ac_rfl
        have f2 : b * n * (2 ^ (q + 1074).toNat * 2 ^ (j + 1926).toNat) = (b * 2 ^ (q + 1074).toNat) * (n * 2 ^ (j + 1926).toNat) := by ac_rfl
        rw [f1, f2]
        exact Nat.mul_le_mul_right _ hab'
      have hzero : ∀ (a : Nat) (p : Int), (a : Int) * 2 ^ (p + 1074).toNat = 0 → rval (rung (a * n) (p + j)) = 0 := by
        intro a p h0
        have : a = 0 := by
          rcases Int.mul_eq_zero.1 h0 with h | h
          · omega
          · have : (0 : Int) < 2 ^ (p + 1074).toNat := Int.pow_pos (by decide)
            omega
        rw [this, Nat.zero_mul]
        rfl
      exact sgn_mono g4 g4' (rval_nonneg _) (rval_nonneg _) (hmono m m' i i' r.2.1 r'.2.1) (hmono m' m i' i r'.2.1 r.2.1) (hzero m i) (hzero m' i') h
theorem nan_times {x n : Nat} {j : Int} (hx : nanB x = false) : nanB (timesW n j (Ieee.double.read x)) = false := by
  unfold nanB at hx
  generalize Ieee.double.read x = X at hx
  cases X with
  | nan => cases hx
  | infinity s => exact (ky_inf s).2
  | number s m i => exact nan_nearest _ _ _

theorem two_nat (k : Nat) : (2 : Int) ^ k = ((2 ^ k : Nat) : Int) := by rw [Int.natCast_pow]; rfl
theorem two_le {j k : Nat} (h : j ≤ k) : (2 : Int) ^ j ≤ 2 ^ k := by
  rw [two_nat, two_nat]
  exact Int.ofNat_le.2 (Nat.pow_le_pow_right (by decide) h)
/-- cut towards nought -/
theorem toInt_ky {b : Nat} {s : Bool} {m : Nat} {i : Int} (h : Ieee.double.read b = .number s m i) : (Ieee.double.read b).toInt .zero = some (Int.tdiv (ky b) (2 ^ 1074)) := by
  have r := read_number h
  unfold ky
  rw [h]
  show some (signed s (Toward.cut .zero s (m <<< i.toNat) (-i).toNat) 0) = _
  rw [cut_zero, signed_eq, Nat.shiftLeft_eq]
  simp only [dky, Int.pow_zero, Int.mul_one]
  congr 1
  have e : m * 2 ^ i.toNat / 2 ^ (-i).toNat = m * 2 ^ (i + 1074).toNat / 2 ^ 1074 := by
    have f1 : (i + 1074).toNat = i.toNat + (1074 - (-i).toNat) := by omega
    have f2 : (2 : Nat) ^ 1074 = 2 ^ (-i).toNat * 2 ^ (1074 - (-i).toNat) := by rw [← Nat.pow_add]; congr 1; omega
    rw [f1, f2, Nat.pow_add, ← Nat.mul_assoc, Nat.mul_div_mul_right _ _ (Nat.two_pow_pos _)]
  rw [e]
  have g : ((m * 2 ^ (i + 1074).toNat / 2 ^ 1074 : Nat) : Int) = Int.tdiv ((m : Int) * 2 ^ (i + 1074).toNat) (2 ^ 1074) := by
    have q : (m : Int) * 2 ^ (i + 1074).toNat = ((m * 2 ^ (i + 1074).toNat : Nat) : Int) := by rw [Int.natCast_mul, Int.natCast_pow]; rfl
    have q2 := two_nat 1074
    rw [q, q2, Int.ofNat_tdiv]
  rw [g]
  generalize (2 : Int) ^ 1074 = c
  cases s
  · simp
  · simp [Int.neg_tdiv]
end Go.Proofs.YtcbkgammlfjjoaaDoor
