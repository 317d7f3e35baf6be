/- Floats: minus, without a sign, infinities, thousandths: plain laws. -/
import Derived.Test.YtcbkgammlfjjoaaDoorFlB
namespace Go.Proofs.YtcbkgammlfjjoaaDoor
set_option linter.unusedVariables false
set_option linter.unusedSimpArgs false
open Ieee

/-- the sign turned -/
def negW (b : Nat) : Nat := if b < 9223372036854775808 then b + 9223372036854775808 else b - 9223372036854775808
theorem xor_top {b : Nat} (h : b < 9223372036854775808) : b ^^^ 2 ^ 63 = b + 2 ^ 63 := by
  apply Nat.eq_of_testBit_eq
  intro i
  rw [Nat.testBit_xor, Nat.add_comm, Nat.testBit_two_pow]
  by_cases hi : i = 63
  · subst hi
    rw [Nat.testBit_two_pow_add_eq]
    simp
  · rcases Nat.lt_or_gt_of_ne hi with h1 | h1
    · rw [Nat.testBit_two_pow_add_gt h1]
      have : ¬ 63 = i := by omega
      simp [this]
    · have hp : 2 ^ 63 ≤ 2 ^ i := Nat.pow_le_pow_right (by decide) (by omega)
      have hp2 : 2 ^ 64 ≤ 2 ^ i := Nat.pow_le_pow_right (by decide) (by omega)
      have e1 : b.testBit i = false := Nat.testBit_lt_two_pow (by omega)
      have e2 : (2 ^ 63 + b).testBit i = false := Nat.testBit_lt_two_pow (by omega)
      have : ¬ 63 = i := by omega
      rw [e1, e2]; simp [this]
theorem neg_eq {b : Nat} (h : b < 18446744073709551616) : Op.negFloat .f64 b = negW b := by
  show b ^^^ 2 ^ 63 = _
  unfold negW
  split
  · rename_i h1; exact xor_top h1
  · rename_i h1
    obtain ⟨c, rfl⟩ : ∃ c, b = c + 2 ^ 63 := ⟨b - 2 ^ 63, by omega⟩
    rw [← xor_top (by omega : c < 9223372036854775808), Nat.xor_assoc, Nat.xor_self, Nat.xor_zero, xor_top (by omega)]
    omega
theorem negW_lt {b : Nat} (h : b < 18446744073709551616) : negW b < 18446744073709551616 := by unfold negW; split <;> omega
theorem read_negW {b : Nat} (h : b < 18446744073709551616) : Ieee.double.read (negW b) = (Ieee.double.read b).opposite := by
  have e1 : negW b % 9223372036854775808 = b % 9223372036854775808 := by unfold negW; split <;> omega
  have e2 : (negW b / 9223372036854775808 % 2 == 1) = !(b / 9223372036854775808 % 2 == 1) := by
    unfold negW
    rw [Bool.eq_iff_iff]
    split
    · simp; omega
    · simp; omega
  unfold Format.read
  rw [dl, db, di, dsw]
  dsimp only
  rw [e1, e2]
  split
  · rfl
  · split
    · rfl
    · split <;> rfl
theorem dky_opp (d : Datum) : dky d.opposite = - dky d := by
  cases d with
  | nan => rfl
  | infinity s => cases s <;> simp [Datum.opposite, dky]
  | number s m i => cases s <;> simp [Datum.opposite, dky]
theorem ky_negW {b : Nat} (h : b < 18446744073709551616) : ky (negW b) = - ky b := by unfold ky; rw [read_negW h, dky_opp]
theorem nan_negW {b : Nat} (h : b < 18446744073709551616) : nanB (negW b) = nanB b := by
  unfold nanB; rw [read_negW h]; cases Ieee.double.read b <;> rfl
/-- the sign taken off -/
theorem read_abs (b : Nat) (h : b < 18446744073709551616) : Ieee.double.read (b % 9223372036854775808) = if b < 9223372036854775808 then Ieee.double.read b else (Ieee.double.read b).opposite := by
  split
  · rw [Nat.mod_eq_of_lt (by assumption)]
  · rw [← read_negW h]
    congr 1
    unfold negW
    rw [if_neg (by assumption)]
    omega
theorem ky_abs {b : Nat} (h : b < 18446744073709551616) (hn : nanB b = false) : ky (b % 9223372036854775808) = (ky b).natAbs ∧ nanB (b % 9223372036854775808) = false := by
  have hs := ky_sign h hn
  unfold ky nanB at *
  rw [read_abs b h]
  split
  · have := hs.2 (by assumption)
    exact ⟨by omega, hn⟩
  · have := hs.1 (by omega)
    refine ⟨by rw [dky_opp]; omega, ?_⟩
    generalize Ieee.double.read b = x at hn
    cases x <;> first | rfl | exact hn
/-- the least place's unit -/
def unitI : Int := 2 ^ 1074
theorem unitI_pos : 0 < unitI := by unfold unitI; exact Int.pow_pos (by decide)
theorem toInt_unit {b : Nat} {s : Bool} {m : Nat} {i : Int} (h : Ieee.double.read b = .number s m i) : (Ieee.double.read b).toInt .zero = some (Int.tdiv (ky b) unitI) := toInt_ky h
theorem big_unit : 9007199254740992 * unitI < big := by
  have := big_lt (m := 9007199254740991) (k := 1075) (by decide) (by decide)
  unfold unitI
  have e : (2 : Int) ^ 1075 = 2 ^ 1074 * 2 := by rw [← Int.pow_succ]
  rw [e] at this
  have hp : (0 : Int) < 2 ^ 1074 := Int.pow_pos (by decide)
  generalize (2 : Int) ^ 1074 = u at *
  omega
theorem ky_c53 : ky 4845873199050653696 = 9007199254740992 * unitI := by
  show dky (Ieee.double.read 4845873199050653696) = _
  rw [show Ieee.double.read 4845873199050653696 = .number false 4503599627370496 1 from by kernel_rfl]
  simp only [dky, unitI]
  rw [show ((1 : Int) + 1074).toNat = 1074 + 1 from rfl, Int.pow_succ]
  simp only [Bool.false_eq_true, if_false, Int.one_mul]
  generalize (2 : Int) ^ 1074 = u
  omega
theorem ky_nc53 : ky 14069245235905429504 = - (9007199254740992 * unitI) := by
  rw [← ky_c53, ← ky_negW (by decide)]
  rfl
attribute [irreducible] unitI
theorem nan_c53 : nanB 4845873199050653696 = false := by kernel_rfl
theorem nan_nc53 : nanB 14069245235905429504 = false := by kernel_rfl
theorem read_inf {b : Nat} {s : Bool} (h : b < 18446744073709551616) (hr : Ieee.double.read b = .infinity s) : b = if s then 18442240474082181120 else 9218868437227405312 := by
  have hs := read_sign h
  rw [hr] at hs
  unfold Format.read at hr
  rw [dl, db, di, dsw] at hr
  dsimp only at hr
  split at hr
  · cases hr
  · split at hr
    · cases hr
    · split at hr
      · cases s
        · have : ¬ 9223372036854775808 ≤ b := by simpa [Datum.neg] using hs
          simp; omega
        · have : 9223372036854775808 ≤ b := by simpa [Datum.neg] using hs
          simp; omega
      · cases hr
theorem ky_number {b : Nat} {s : Bool} {m : Nat} {i : Int} (hr : Ieee.double.read b = .number s m i) : (ky b).natAbs ≤ (ky 9218868437227405311).natAbs ∧ ky b < big ∧ - big < ky b := by
  have r := read_number hr
  have h1 := big_lt (k := (i + 1074).toNat) r.1 (by omega)
  have h2 : (0 : Int) ≤ (m : Int) * 2 ^ (i + 1074).toNat := Int.mul_nonneg (by omega) (Int.le_of_lt (Int.pow_pos (by decide)))
  have h3 : (m : Int) * 2 ^ (i + 1074).toNat ≤ (9007199254740991 : Int) * 2 ^ 2045 := by
    refine Int.mul_le_mul (by omega) ?_ (Int.le_of_lt (Int.pow_pos (by decide))) (by decide)
    exact two_le (by omega)
  have hM : ky 9218868437227405311 = (9007199254740991 : Int) * 2 ^ 2045 := by
    show dky (Ieee.double.read 9218868437227405311) = _
    rw [show Ieee.double.read 9218868437227405311 = .number false 9007199254740991 971 from by kernel_rfl]
    simp only [dky]
    rw [show ((971 : Int) + 1074).toNat = 2045 from rfl]
    generalize (2 : Int) ^ 2045 = c
    simp
  rw [hM]
  unfold ky
  rw [hr]
  simp only [dky]
  generalize (m : Int) * 2 ^ (i + 1074).toNat = u at *
  generalize (9007199254740991 : Int) * 2 ^ 2045 = v at *
  cases s <;> simp <;> omega
theorem nan_number {b : Nat} {s : Bool} {m : Nat} {i : Int} (hr : Ieee.double.read b = .number s m i) : nanB b = false := by unfold nanB; rw [hr]; rfl
theorem nan_max : nanB 9218868437227405311 = false := by kernel_rfl
theorem ky_max_pos : 0 ≤ ky 9218868437227405311 := (ky_sign (by decide) nan_max).2 (by decide)
/-- a number is not above the greatest one -/
theorem max_number {b : Nat} {s : Bool} {m : Nat} {i : Int} (hb : b < 18446744073709551616) (hr : Ieee.double.read b = .number s m i) :
    ltB 9218868437227405311 b = false ∧ ltB 9218868437227405311 (negW b) = false ∧ eqB b 9218868437227405312 = false ∧ eqB b 18442240474082181120 = false := by
  have h := ky_number hr
  have hp := ky_max_pos
  have k1 : ky 9218868437227405312 = big := by have := (ky_inf false).1; simpa [Format.word] using this
  have k2 : ky 18442240474082181120 = -big := by have := (ky_inf true).1; simpa [Format.word, dsw] using this
  refine ⟨?_, ?_, ?_, ?_⟩
  · unfold ltB
    have : ¬ ky 9218868437227405311 < ky b := by omega
    simp [this]
  · unfold ltB
    rw [ky_negW hb]
    have : ¬ ky 9218868437227405311 < - ky b := by omega
    simp [this]
  · unfold eqB
    rw [k1]
    have : ¬ ky b = big := by omega
    simp [this]
  · unfold eqB
    rw [k2]
    have : ¬ ky b = -big := by omega
    simp [this]
/-- a float's thousandths, unrounded in their way of writing -/
def thouW (x : Nat) : Nat := timesW 8796093022208000 (-43) (Ieee.double.read x)
theorem mul_1000 {x : Nat} (h : nanB x = false) : Ieee.double.mul x 4652007308841189376 = some (thouW x) := mul_pos_word (by kernel_rfl) (by decide) h
theorem thouW_lt (x : Nat) : thouW x < 18446744073709551616 := by
  unfold thouW timesW
  split
  · exact Ieee.double.nearest_lt _ _ _
  · exact Ieee.double.word_lt _ (by decide)
  · decide
theorem nan_thouW {x : Nat} (h : nanB x = false) : nanB (thouW x) = false := nan_times h
theorem thou_mono {x y : Nat} (hx : nanB x = false) (hy : nanB y = false) (h : ky x ≤ ky y) : ky (thouW x) ≤ ky (thouW y) := times_mono (by decide) (by decide) hx hy h
def bigB (y : Nat) : Bool := decide (9007199254740992 * unitI < (ky y).natAbs)
theorem bigB_ours {y : Nat} (h : y < 18446744073709551616) (hn : nanB y = false) : ltB 4845873199050653696 (y % 9223372036854775808) = bigB y := by
  have := ky_abs h hn
  unfold ltB bigB
  rw [this.1, this.2, nan_c53, ky_c53]
  simp
theorem bigB_theirs {y : Nat} (hn : nanB y = false) : (ltB 4845873199050653696 y || ltB y 14069245235905429504) = bigB y := by
  have := unitI_pos
  unfold ltB bigB
  rw [hn, nan_c53, nan_nc53, ky_c53, ky_nc53]
  simp only [Bool.not_false, Bool.true_and]
  generalize unitI = u at *
  rw [Bool.eq_iff_iff, Bool.or_eq_true, decide_eq_true_eq, decide_eq_true_eq, decide_eq_true_eq]
  omega
theorem toInt_small {y : Nat} (hn : nanB y = false) (hb : bigB y = false) : floatToIntVal .f64 y .i64 = some (Int.tdiv (ky y) unitI) := by
  have hu := unitI_pos
  have hbu := big_unit
  have hk : (ky y).natAbs ≤ 9007199254740992 * unitI := by
    have : ¬ 9007199254740992 * unitI < ((ky y).natAbs : Int) := by unfold bigB at hb; exact of_decide_eq_false hb
    omega
  unfold floatToIntVal
  show (match (Ieee.double.read y).toInt .zero with | some n => if IntKind.i64.min ≤ n ∧ n ≤ IntKind.i64.max then some n else none | none => none) = _
  have hbp := big_pos
  cases hr : Ieee.double.read y with
  | nan s f => unfold nanB at hn; rw [hr] at hn; cases hn
  | infinity s =>
    exfalso
    have : ky y = (if s then -1 else 1) * big := by unfold ky; rw [hr]; rfl
    rw [this] at hk
    generalize unitI = u at *
    cases s <;> simp at hk <;> omega
  | number s m i =>
    rw [← hr, toInt_unit hr]
    have h1 : Int.tdiv (ky y) unitI ≤ 9007199254740992 ∧ -9007199254740992 ≤ Int.tdiv (ky y) unitI := by
      have e1 : ((ky y).tdiv unitI).natAbs = (ky y).natAbs / unitI.natAbs := Int.natAbs_tdiv (ky y) unitI
      have e2 : (ky y).natAbs / unitI.natAbs ≤ 9007199254740992 := Nat.div_le_of_le_mul (by omega)
      omega
    dsimp only
    rw [if_pos ⟨by show (-9223372036854775808 : Int) ≤ _; omega, by show _ ≤ (9223372036854775807 : Int); omega⟩]
theorem tdiv_mono {a b u : Int} (hu : 0 < u) (h : a ≤ b) : Int.tdiv a u ≤ Int.tdiv b u := Int.tdiv_le_tdiv hu h
/-- Mills, plainly -/
def millsF (x : Nat) : Int × Int := if nanB x then (0, 1) else if x = 9218868437227405312 then (0, 2) else if x = 18442240474082181120 then (0, 3) else if bigB (thouW x) then (0, 4) else (Int.tdiv (ky (thouW x)) unitI, 0)
theorem millsF_mono {x y : Nat} (hx : (millsF x).2 = 0) (hy : (millsF y).2 = 0) (h : nanB x = false → nanB y = false → ky x ≤ ky y) : (millsF x).1 ≤ (millsF y).1 := by
  unfold millsF at *
  cases hnx : nanB x with
  | true => simp [hnx] at hx
  | false =>
    cases hny : nanB y with
    | true => simp [hny] at hy
    | false =>
      simp only [hnx, hny, Bool.false_eq_true, if_false] at hx hy ⊢
      split at hx
      · simp at hx
      · split at hx
        · simp at hx
        · split at hx
          · simp at hx
          · split at hy
            · simp at hy
            · split at hy
              · simp at hy
              · split at hy
                · simp at hy
                · rename_i a1 a2 a3 b1 b2 b3
                  rw [if_neg a1, if_neg a2, if_neg a3, if_neg b1, if_neg b2, if_neg b3]
                  exact tdiv_mono unitI_pos (thou_mono hnx hny (h hnx hny))
end Go.Proofs.YtcbkgammlfjjoaaDoor
