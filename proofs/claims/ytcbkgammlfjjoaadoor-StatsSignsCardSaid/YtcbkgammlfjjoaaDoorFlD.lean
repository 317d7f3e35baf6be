/- Floats: quotients, minus signs and doubling: plain laws. -/
import Derived.Test.YtcbkgammlfjjoaaDoorFlC
namespace Go.Proofs.YtcbkgammlfjjoaaDoor
set_option linter.unusedVariables false
set_option linter.unusedSimpArgs false
open Ieee

theorem opp_opp (d : Datum) : d.opposite.opposite = d := by cases d <;> simp [Datum.opposite]
theorem quot_opp (k : Nat) (x y : Datum) : x.opposite.quotient k y = (x.quotient k y).map Datum.opposite := by
  cases x <;> cases y <;> simp [Datum.opposite, Datum.quotient]
  · split
    · split <;> simp [Datum.opposite]
    · simp [Datum.opposite]
theorem quot_opp2 (k : Nat) (x y : Datum) : x.quotient k y.opposite = (x.quotient k y).map Datum.opposite := by
  cases x <;> cases y <;> simp [Datum.opposite, Datum.quotient]
  · split
    · split <;> simp [Datum.opposite]
    · simp [Datum.opposite]
theorem quot_not_nan {k : Nat} {x y d : Datum} (h : x.quotient k y = some d) : d.isNaN = false := by
  cases x <;> cases y <;> simp only [Datum.quotient] at h
  all_goals first | (cases h; done) | (injection h with h; subst h; rfl) | skip
  split at h
  · split at h
    · cases h
    · injection h with h; subst h; rfl
  · injection h with h; subst h; rfl
theorem word_neg (s : Bool) {r : Nat} (h : r ≤ 9218868437227405312) : Ieee.double.word (!s) r = negW (Ieee.double.word s r) := by
  unfold Format.word negW
  rw [dsw]
  cases s
  · show 9223372036854775808 + r = if r < 9223372036854775808 then r + 9223372036854775808 else r - 9223372036854775808
    rw [if_pos (by omega)]; omega
  · show r = if 9223372036854775808 + r < 9223372036854775808 then 9223372036854775808 + r + 9223372036854775808 else 9223372036854775808 + r - 9223372036854775808
    rw [if_neg (by omega)]; omega
theorem write_opp {d : Datum} (h : d.isNaN = false) : Ieee.double.write d.opposite = negW (Ieee.double.write d) := by
  cases d with
  | nan => cases h
  | infinity s => exact word_neg s (by rw [di]; exact Nat.le_refl _)
  | number s m i =>
    show Ieee.double.nearest (!s) m i = negW (Ieee.double.nearest s m i)
    rw [nearest_eq, nearest_eq]
    exact word_neg s (rung_le m i)
theorem write_not_nan {d : Datum} (h : d.isNaN = false) : nanB (Ieee.double.write d) = false := by
  cases d with
  | nan => cases h
  | infinity s => show nanB (Ieee.double.word s Ieee.double.infRung) = false; rw [di]; exact (ky_inf s).2
  | number s m i => exact nan_nearest s m i
theorem div_neg {x : Nat} (y : Nat) (hx : x < 18446744073709551616) : Ieee.double.div (negW x) y = (Ieee.double.div x y).map negW := by
  unfold Format.div
  rw [read_negW hx, quot_opp]
  cases h : Datum.quotient (Ieee.double.fractionBits + 2) (Ieee.double.read x) (Ieee.double.read y) with
  | none => rfl
  | some d => simp only [Option.map_some]; rw [write_opp (quot_not_nan h)]
theorem div_neg2 (x : Nat) {y : Nat} (hy : y < 18446744073709551616) : Ieee.double.div x (negW y) = (Ieee.double.div x y).map negW := by
  unfold Format.div
  rw [read_negW hy, quot_opp2]
  cases h : Datum.quotient (Ieee.double.fractionBits + 2) (Ieee.double.read x) (Ieee.double.read y) with
  | none => rfl
  | some d => simp only [Option.map_some]; rw [write_opp (quot_not_nan h)]
theorem div_not_nan {x y r : Nat} (h : Ieee.double.div x y = some r) : nanB r = false := by
  unfold Format.div at h
  cases h2 : Datum.quotient (Ieee.double.fractionBits + 2) (Ieee.double.read x) (Ieee.double.read y) with
  | none => rw [h2] at h; cases h
  | some d => rw [h2] at h; injection h with h; rw [← h]; exact write_not_nan (quot_not_nan h2)
theorem negW_negW {x : Nat} (h : x < 18446744073709551616) : negW (negW x) = x := by
  unfold negW
  by_cases h1 : x < 9223372036854775808
  · rw [if_pos h1, if_neg (by omega)]; omega
  · rw [if_neg h1, if_pos (by omega)]; omega

/-- the floats whose double is exact -/
def Good (x : Nat) : Prop := nanB x = true ∨ (∃ s, Ieee.double.read x = .infinity s) ∨ (∃ s, Ieee.double.read x = .number s 0 (-1074)) ∨ (∃ s m i, Ieee.double.read x = .number s m i ∧ 4503599627370496 ≤ m ∧ i ≤ 900)
theorem read_rung (s : Bool) {r : Nat} (h : r < 9218868437227405312) : Ieee.double.read (Ieee.double.word s r) = if r < 4503599627370496 then .number s r (-1074) else .number s (4503599627370496 + r % 4503599627370496) (-1074 + (r / 4503599627370496 - 1 : Nat)) := by
  have e1 : Ieee.double.word s r % 9223372036854775808 = r := by
    unfold Format.word; rw [dsw]; split <;> omega
  have e2 : (Ieee.double.word s r / 9223372036854775808 % 2 == 1) = s := by
    unfold Format.word; rw [dsw]
    cases s
    · rw [if_neg (by decide)]; simp; omega
    · rw [if_pos rfl]; simp; omega
  unfold Format.read
  rw [dl, db, di, dsw]
  dsimp only
  rw [e1, e2, if_pos h]
theorem read_nearest (s : Bool) {m : Nat} {p : Int} (hm : m ≠ 0) (h0 : -1000 ≤ p + m.log2) (h1 : p + m.log2 ≤ 800) : ∃ n i, Ieee.double.read (Ieee.double.nearest s m p) = .number s n i ∧ 4503599627370496 ≤ n ∧ n < 9007199254740992 ∧ p + m.log2 - 52 ≤ i ∧ i ≤ p + m.log2 - 51 := by
  have hL : lastP m p = p + m.log2 - 52 := by unfold lastP; omega
  have k1 := kept_hi (place := p) hm
  have k2 := kept_lo (place := p) hm (by rw [hL]; omega)
  rw [nearest_eq]
  have hr : rung m p = (p + m.log2 - 52 + 1074).toNat * 4503599627370496 + kept m p := by
    unfold rung
    rw [if_neg hm, hL]
    omega
  have hb : rung m p < 9218868437227405312 := by rw [hr]; omega
  rw [read_rung s hb, if_neg (by rw [hr]; omega)]
  refine ⟨_, _, rfl, by omega, by omega, ?_, ?_⟩
  · rw [hr]; omega
  · rw [hr]; omega
theorem log2_of {m k : Nat} (h1 : 2 ^ k ≤ m) (h2 : m < 2 ^ (k + 1)) : m.log2 = k := by
  have hm : m ≠ 0 := by have := Nat.two_pow_pos k; omega
  have a := (Nat.le_log2 hm).2 h1
  have b := (Nat.log2_lt hm).2 h2
  omega
theorem log2_52 {m : Nat} (h1 : 4503599627370496 ≤ m) (h2 : m < 9007199254740992) : m.log2 = 52 := log2_of h1 h2
/-- a quotient of two usual numbers -/
theorem quot_usual {s t : Bool} {m n : Nat} {i j : Int} (hm : 4503599627370496 ≤ m) (hm2 : m < 9007199254740992) (hn : 4503599627370496 ≤ n) (hn2 : n < 9007199254740992) :
    ∃ mag, Datum.quotient 54 (.number s m i) (.number t n j) = some (.number (s ^^ t) mag (i - j - 54 - 1)) ∧ mag ≠ 0 ∧ 54 ≤ mag.log2 ∧ mag.log2 ≤ 56 := by
  simp only [Datum.quotient]
  rw [if_neg (by omega), log2_52 hm hm2, log2_52 hn hn2]
  refine ⟨_, rfl, ?_⟩
  rw [Nat.shiftLeft_eq]
  have ht := toNat_le (m * 2 ^ (54 + 52 - 52) % n != 0)
  generalize (m * 2 ^ (54 + 52 - 52) % n != 0).toNat = b at ht
  have h1 : 9007199254740992 ≤ m * 2 ^ (54 + 52 - 52) / n := by
    rw [Nat.le_div_iff_mul_le (by omega)]
    omega
  have h2 : m * 2 ^ (54 + 52 - 52) / n < 36028797018963968 := by
    rw [Nat.div_lt_iff_lt_mul (by omega)]
    omega
  generalize m * 2 ^ (54 + 52 - 52) / n = q at h1 h2
  have hz : 2 * q + b ≠ 0 := by omega
  refine ⟨hz, ?_, ?_⟩
  · rw [Nat.le_log2 hz]; omega
  · have := (Nat.log2_lt hz (k := 57)).2 (by omega)
    omega
theorem good_div {x y r : Nat} {s t : Bool} {m n : Nat} {i j : Int} (hx : Ieee.double.read x = .number s m i) (hy : Ieee.double.read y = .number t n j) (hm : 4503599627370496 ≤ m) (hn : 4503599627370496 ≤ n) (hi : -300 ≤ i ∧ i ≤ 300) (hj : -300 ≤ j ∧ j ≤ 300)
    (h : Ieee.double.div x y = some r) : Good r := by
  obtain ⟨mag, hq, h0, h1, h2⟩ := quot_usual (s := s) (t := t) (i := i) (j := j) hm (read_number hx).1 hn (read_number hy).1
  unfold Format.div at h
  rw [hx, hy, show Ieee.double.fractionBits + 2 = 54 from rfl, hq] at h
  injection h with h
  subst h
  obtain ⟨n', i', e, h3, h4, h5, h6⟩ := read_nearest (s ^^ t) (p := i - j - 54 - 1) h0 (by omega) (by omega)
  exact Or.inr (Or.inr (Or.inr ⟨_, _, _, e, h3, by omega⟩))
theorem read_foi {q : Int} (hq : q ≠ 0) (h0 : -576460752303423488 ≤ q) (h1 : q ≤ 576460752303423487) : ∃ s n i, Ieee.double.read (floatOfInt .f64 q) = .number s n i ∧ 4503599627370496 ≤ n ∧ -52 ≤ i ∧ i ≤ 10 := by
  have hz : q.natAbs ≠ 0 := by omega
  have hl : q.natAbs.log2 < 60 := (Nat.log2_lt hz).2 (by omega)
  obtain ⟨n, i, e, h3, h4, h5, h6⟩ := read_nearest (decide (q < 0)) (p := 0) hz (by omega) (by omega)
  exact ⟨_, n, i, e, h3, by omega, by omega⟩
theorem foi_zero : floatOfInt .f64 0 = 0 := by kernel_rfl
/-- doubled -/
def dblB (x : Nat) : Option Nat := Ieee.double.mul 4611686018427387904 x
theorem dbl_read {x : Nat} : ∃ j, Ieee.double.read 4611686018427387904 = .number false 4503599627370496 j ∧ j = -51 := ⟨-51, by kernel_rfl, rfl⟩
theorem dbl_div_l {x : Nat} (hx : Good x) (hn : nanB x = false) : ∃ X, dblB x = some X ∧ ((∃ s, Ieee.double.read x = .infinity s ∧ Ieee.double.read X = .infinity s) ∨ (∃ s, Ieee.double.read x = .number s 0 (-1074) ∧ Ieee.double.read X = .number s 0 (-1074)) ∨ (∃ s m i, Ieee.double.read x = .number s m i ∧ 4503599627370496 ≤ m ∧ Ieee.double.read X = .number s m (i + 1))) := by
  obtain ⟨j, hj, rfl⟩ := @dbl_read x
  unfold dblB Format.mul
  rw [hj]
  rcases hx with h | ⟨s, h⟩ | ⟨s, h⟩ | ⟨s, m, i, h, hm, hi⟩
  · rw [h] at hn; cases hn
  · refine ⟨Ieee.double.word s 9218868437227405312, ?_, Or.inl ⟨s, h, ?_⟩⟩
    · rw [h]
      simp [Datum.product]
      show Ieee.double.word s Ieee.double.infRung = _
      rw [di]
    · cases s <;> kernel_rfl
  · refine ⟨Ieee.double.word s 0, ?_, Or.inr (Or.inl ⟨s, h, ?_⟩)⟩
    · rw [h]
      simp [Datum.product]
      show Ieee.double.nearest s 0 _ = _
      rw [nearest_eq]; rfl
    · cases s <;> kernel_rfl
  · have hr := read_number h
    refine ⟨Ieee.double.nearest s (4503599627370496 * m) (-51 + i), ?_, Or.inr (Or.inr ⟨s, m, i, h, hm, ?_⟩)⟩
    · rw [h]
      simp [Datum.product]
      rfl
    · have hl : (4503599627370496 * m).log2 = 104 := log2_of (by omega) (by omega)
      have hz : 4503599627370496 * m ≠ 0 := by omega
      have hL : lastP (4503599627370496 * m) (-51 + i) = i + 1 := by unfold lastP; rw [hl]; omega
      have hk : kept (4503599627370496 * m) (-51 + i) = m := by
        unfold kept
        rw [hL, show (-51 + i - (i + 1)).toNat = 0 from by omega, show (i + 1 - (-51 + i)).toNat = 52 from by omega]
        unfold rnd
        have e1 : 4503599627370496 * m * 2 ^ 0 / 2 ^ 52 = m := by omega
        have e2 : 4503599627370496 * m * 2 ^ 0 % 2 ^ 52 = 0 := by omega
        rw [e1, e2]
        simp
      have hrg : rung (4503599627370496 * m) (-51 + i) = (i + 1 + 1074).toNat * 4503599627370496 + m := by
        unfold rung
        rw [if_neg hz, hL, hk]
        omega
      rw [nearest_eq, hrg, read_rung s (by omega), if_neg (by omega)]
      congr 1
      · omega
      · omega
theorem dbl_div {x y X Y : Nat} (hx : Good x) (hy : Good y) (nx : nanB x = false) (ny : nanB y = false) (hX : dblB x = some X) (hY : dblB y = some Y) : Ieee.double.div X Y = Ieee.double.div x y := by
  obtain ⟨X', eX, hx'⟩ := dbl_div_l hx nx
  obtain ⟨Y', eY, hy'⟩ := dbl_div_l hy ny
  rw [eX] at hX
  rw [eY] at hY
  injection hX with hX
  injection hY with hY
  subst hX hY
  unfold Format.div
  rcases hx' with ⟨s, h1, h2⟩ | ⟨s, h1, h2⟩ | ⟨s, m, i, h1, hm, h2⟩ <;> rcases hy' with ⟨t, k1, k2⟩ | ⟨t, k1, k2⟩ | ⟨t, n, j, k1, hn, k2⟩ <;> rw [h1, h2, k1, k2]
  · rfl
  · simp only [Datum.quotient]
    rw [if_neg (by omega), if_neg (by omega)]
    simp only [Option.map_some]
    have e : ∀ p, Ieee.double.write (.number (s ^^ t) (2 * (0 <<< (Ieee.double.fractionBits + 2 + n.log2 - Nat.log2 0) / n) + (0 <<< (Ieee.double.fractionBits + 2 + n.log2 - Nat.log2 0) % n != 0).toNat) p) = Ieee.double.word (s ^^ t) 0 := by
      intro p
      rw [Nat.zero_shiftLeft, Nat.zero_div, Nat.zero_mod]
      show Ieee.double.nearest (s ^^ t) 0 p = _
      rw [nearest_eq]; rfl
    rw [e, e]
  · simp only [Datum.quotient]
  · simp only [Datum.quotient, if_true]
  · simp only [Datum.quotient]
    rw [if_neg (by omega), if_neg (by omega), show i + 1 - (j + 1) = i - j from by omega]
end Go.Proofs.YtcbkgammlfjjoaaDoor
