/- StatsEven, plainly: whole numbers' sums and quotients as floats. StatsEven, plainly: quotients of whole numbers as floats stand for the fraction alone. StatsEven, plainly: a waveform of changes at even times, and its numbers. StatsEven: the statement's own function, walked. -/
import Derived.Test.YtcbkgammlfjjoaaDoorMgP
import Derived.Test.YtcbkgammlfjjoaaDoorMgT
import Derived.Test.YtcbkgammlfjjoaaDoorAwakeW
import Derived.Test.YtcbkgammlfjjoaaDoorMgS
namespace Go.Proofs.YtcbkgammlfjjoaaDoor
set_option linter.unusedVariables false
set_option linter.unusedSimpArgs false
open Go.RowKit Go.Proofs.YtcbkgammlfjjoaaDoorW.PrintWords Go.Proofs.YtcbkgammlfjjoaaDoorW.PrintLast Go.Proofs.YtcbkgammlfjjoaaDoorW.PrintMore
open Ieee

theorem foi_eq (k : Nat) : foi (k : Int) = Ieee.double.nearest false k 0 := by
  have e : foi (k : Int) = Ieee.double.nearest (decide ((k : Int) < 0)) (k : Int).natAbs 0 := rfl
  rw [decide_eq_false (by omega), Int.natAbs_natCast] at e
  exact e
theorem near_eq {m1 m2 : Nat} {p1 p2 : Int} (h1 : -3000 ≤ p1) (h2 : -3000 ≤ p2) (h : m1 * 2 ^ (p1 + 3000).toNat = m2 * 2 ^ (p2 + 3000).toNat) : Ieee.double.nearest false m1 p1 = Ieee.double.nearest false m2 p2 := by
  rw [nearest_eq, nearest_eq, Nat.le_antisymm (rung_mono h1 h2 (Nat.le_of_eq h)) (rung_mono h2 h1 (Nat.le_of_eq h.symm))]
/-- a whole number as a float, read -/
theorem foi_val (k : Nat) (hk : k < 9007199254740992) : ∃ m p, Ieee.double.read (foi k) = .number false m p ∧ -1074 ≤ p ∧ p ≤ 0 ∧ m * 2 ^ (p + 3000).toNat = k * 2 ^ ((0 : Int) + 3000).toNat := by
  by_cases h0 : k = 0
  · subst h0
    have h : Ieee.double.read (foi ((0 : Nat) : Int)) = .number false 0 (-1074) := by kernel_rfl
    exact ⟨0, -1074, h, by omega, by omega, by rw [Nat.zero_mul, Nat.zero_mul]⟩
  · obtain ⟨e, he, hr⟩ := read_foi_exact k (by omega) hk
    refine ⟨k * 2 ^ e, -(e : Int), hr, by omega, by omega, ?_⟩
    obtain ⟨c, hc⟩ : ∃ c, c = (-(e : Int) + 3000).toNat := ⟨_, rfl⟩
    rw [show ((0 : Int) + 3000).toNat = e + c from by omega, ← hc, Nat.pow_add, Nat.mul_assoc]
theorem foi_norm (k : Nat) (h0 : 0 < k) (hk : k < 9007199254740992) : ∃ e : Nat, e ≤ 52 ∧ Ieee.double.read (foi k) = .number false (k * 2 ^ e) (-(e : Int)) ∧ 4503599627370496 ≤ k * 2 ^ e ∧ k * 2 ^ e < 9007199254740992 := by
  obtain ⟨e, he, hr⟩ := read_foi_exact k h0 hk
  obtain ⟨s, n, i, h2, h3, -⟩ := read_foi (q := (k : Int)) (by omega) (by omega) (by omega)
  have hr' : Ieee.double.read (floatOfInt .f64 (k : Int)) = .number false (k * 2 ^ e) (-(e : Int)) := hr
  rw [h2] at hr'
  injection hr' with e1 e2 e3
  subst e2
  exact ⟨e, he, hr, h3, (read_number hr).1⟩
theorem sum_two (m n : Nat) (p q : Int) : ∃ M b, Datum.sum (.number false m p) (.number false n q) = some (.number false M b) ∧ b = min p q ∧ M = m * 2 ^ (p - b).toNat + n * 2 ^ (q - b).toNat := by
  refine ⟨m * 2 ^ (p - min p q).toNat + n * 2 ^ (q - min p q).toNat, min p q, ?_, rfl, rfl⟩
  unfold Datum.sum
  simp only [signed_eq, two_nat]
  obtain ⟨A, hA⟩ : ∃ A, A = m * 2 ^ (p - min p q).toNat := ⟨_, rfl⟩
  obtain ⟨B, hB⟩ : ∃ B, B = n * 2 ^ (q - min p q).toNat := ⟨_, rfl⟩
  have e : (if false = true then -1 else 1) * ((m : Int) * ((2 ^ (p - min p q).toNat : Nat) : Int)) + (if false = true then -1 else 1) * ((n : Int) * ((2 ^ (q - min p q).toNat : Nat) : Int)) = ((A + B : Nat) : Int) := by
    rw [if_neg (by decide), Int.one_mul, Int.one_mul, hA, hB, Int.natCast_add, Int.natCast_mul, Int.natCast_mul]
  rw [e, ← hA, ← hB, Int.natAbs_natCast]
  congr 2
  split
  · rfl
  · exact decide_eq_false (by omega)
/-- sums of whole numbers are exact -/
theorem add_exact (a b : Nat) (h : a + b < 9007199254740992) : floatBits .add .f64 (foi a) (foi b) = some (foi ((a + b : Nat) : Int)) := by
  obtain ⟨m, p, h1, hp1, hp2, hv⟩ := foi_val a (by omega)
  obtain ⟨n, q, h2, hq1, hq2, hw⟩ := foi_val b (by omega)
  obtain ⟨M, c, hs, hc, hM⟩ := sum_two m n p q
  show Ieee.double.add (foi a) (foi b) = _
  unfold Format.add
  rw [h1, h2, hs]
  have hw1 : Ieee.double.write (.number false M c) = Ieee.double.nearest false M c := rfl
  show some (Ieee.double.write (.number false M c)) = _
  rw [hw1, foi_eq]
  congr 1
  refine near_eq (by omega) (by decide) ?_
  have e1 : 2 ^ (p - c).toNat * 2 ^ (c + 3000).toNat = 2 ^ (p + 3000).toNat := by rw [← Nat.pow_add]; congr 1; omega
  have e2 : 2 ^ (q - c).toNat * 2 ^ (c + 3000).toNat = 2 ^ (q + 3000).toNat := by rw [← Nat.pow_add]; congr 1; omega
  rw [hM, Nat.add_mul, Nat.mul_assoc, Nat.mul_assoc, e1, e2, hv, hw, Nat.add_mul]
theorem sub_self (d : Nat) (h : d < 9007199254740992) : floatBits .sub .f64 (foi d) (foi d) = some 0 := by
  obtain ⟨m, p, h1, -, -, -⟩ := foi_val d h
  show Ieee.double.sub (foi d) (foi d) = _
  unfold Format.sub
  rw [h1]
  have hs : Datum.sum (.number false m p) (Datum.opposite (.number false m p)) = some (.number false 0 p) := by
    show Datum.sum (.number false m p) (.number true m p) = _
    unfold Datum.sum
    dsimp only
    have e : signed false m (p - min p p).toNat + signed true m (p - min p p).toNat = 0 := by
      rw [show signed true m (p - min p p).toNat = - signed false m (p - min p p).toNat from rfl, Int.add_right_neg]
    rw [e, show min p p = p from by omega]
    rfl
  rw [hs]
  have hw : Ieee.double.write (.number false 0 p) = Ieee.double.nearest false 0 p := rfl
  show some (Ieee.double.write (.number false 0 p)) = _
  rw [hw, nearest_eq]
  have : rung 0 p = 0 := by unfold rung; rw [if_pos rfl]
  rw [this, word_false (by decide)]
theorem quo_zero (k : Nat) (h0 : 0 < k) (hk : k < 9007199254740992) : floatBits .quo .f64 0 (foi k) = some 0 := by
  obtain ⟨e, -, hr, hlo, -⟩ := foi_norm k h0 hk
  have hz : Ieee.double.read 0 = .number false 0 (-1074) := by kernel_rfl
  show Ieee.double.div 0 (foi k) = _
  unfold Format.div
  rw [hr, hz]
  obtain ⟨B, hB⟩ : ∃ B, B = k * 2 ^ e := ⟨_, rfl⟩
  rw [← hB] at hlo ⊢
  obtain ⟨i, hi⟩ : ∃ i, Datum.quotient (Ieee.double.fractionBits + 2) (.number false 0 (-1074)) (.number false B (-(e : Int))) = some (.number false 0 i) := by
    simp only [Datum.quotient]
    rw [if_neg (by omega)]
    simp only [Nat.zero_shiftLeft, Nat.zero_div, Nat.zero_mod]
    exact ⟨_, rfl⟩
  rw [hi]
  show some (Ieee.double.nearest false 0 i) = _
  rw [nearest_eq]
  have : rung 0 i = 0 := by unfold rung; rw [if_pos rfl]
  rw [this, word_false (by decide)]
/-- what is left over, told by one digit -/
theorem stick (P Q h : Nat) (hQ : 0 < Q) (hh : h % 2 = 0) (h0 : 0 < h) : rnd (2 * (P / Q) + (P % Q != 0).toNat) (2 * h) = rnd P (Q * h) := by
  obtain ⟨q, hq⟩ : ∃ q, q = P / Q := ⟨_, rfl⟩
  obtain ⟨r, hr⟩ : ∃ r, r = P % Q := ⟨_, rfl⟩
  have hP : P = q * Q + r := by rw [hq, hr, Nat.mul_comm]; exact (Nat.div_add_mod P Q).symm
  have hrQ : r < Q := by rw [hr]; exact Nat.mod_lt _ hQ
  obtain ⟨u, hu⟩ : ∃ u, u = q / h := ⟨_, rfl⟩
  obtain ⟨v, hv⟩ : ∃ v, v = q % h := ⟨_, rfl⟩
  have hqh : q = u * h + v := by rw [hu, hv, Nat.mul_comm]; exact (Nat.div_add_mod q h).symm
  have hvh : v < h := by rw [hv]; exact Nat.mod_lt _ h0
  rw [← hr, ← hq]
  obtain ⟨s, hs⟩ : ∃ s, s = (r != 0).toNat := ⟨_, rfl⟩
  rw [← hs]
  have hs1 : s ≤ 1 := by rw [hs]; exact toNat_le _
  have d1 : (2 * q + s) / (2 * h) = u := by
    rw [hqh]
    rw [show 2 * (u * h + v) + s = (2 * v + s) + u * (2 * h) from by rw [Nat.mul_add, ← Nat.mul_assoc, Nat.mul_comm 2 u, Nat.mul_assoc]; omega, Nat.add_mul_div_right _ _ (by omega), Nat.div_eq_of_lt (by omega), Nat.zero_add]
  have d2 : (2 * q + s) % (2 * h) = 2 * v + s := by
    rw [hqh]
    rw [show 2 * (u * h + v) + s = (2 * v + s) + u * (2 * h) from by rw [Nat.mul_add, ← Nat.mul_assoc, Nat.mul_comm 2 u, Nat.mul_assoc]; omega, Nat.add_mul_mod_self_right, Nat.mod_eq_of_lt (by omega)]
  have hvQ : v * Q + r < Q * h := by
    have : v * Q + Q ≤ h * Q := by rw [← Nat.succ_mul]; exact Nat.mul_le_mul_right _ hvh
    rw [Nat.mul_comm Q h]; omega
  have hP2 : P = (v * Q + r) + u * (Q * h) := by
    rw [hP, hqh, Nat.add_mul, Nat.mul_assoc, Nat.mul_comm h Q]; omega
  have d3 : P / (Q * h) = u := by rw [hP2, Nat.add_mul_div_right _ _ (Nat.mul_pos hQ h0), Nat.div_eq_of_lt hvQ, Nat.zero_add]
  have d4 : P % (Q * h) = v * Q + r := by rw [hP2, Nat.add_mul_mod_self_right, Nat.mod_eq_of_lt hvQ]
  unfold rnd
  rw [d1, d2, d3, d4]
  have c1 : decide (2 * h < 2 * (2 * v + s)) = decide (Q * h < 2 * (v * Q + r)) := by
    by_cases hr0 : r = 0
    · have hs0 : s = 0 := by rw [hs, hr0]; rfl
      rw [hs0, hr0]
      congr 1
      refine propext ⟨fun h1 => ?_, fun h1 => ?_⟩
      · have : Q * h < Q * (2 * v) := Nat.mul_lt_mul_of_pos_left (by omega) hQ
        rw [show 2 * (v * Q + 0) = Q * (2 * v) from by rw [Nat.add_zero, Nat.mul_comm v Q, Nat.mul_left_comm]]; exact this
      · rw [show 2 * (v * Q + 0) = Q * (2 * v) from by rw [Nat.add_zero, Nat.mul_comm v Q, Nat.mul_left_comm]] at h1
        have := Nat.lt_of_mul_lt_mul_left h1
        omega
    · have hs2 : s = 1 := by
        rw [hs]
        have : (r != 0) = true := by simpa using hr0
        rw [this]; rfl
      rw [hs2]
      congr 1
      refine propext ⟨fun h1 => ?_, fun h1 => ?_⟩
      · have : Q * h ≤ Q * (2 * v) := Nat.mul_le_mul_left _ (by omega)
        rw [Nat.mul_left_comm, Nat.mul_comm Q v] at this
        omega
      · by_cases h2 : h ≤ 2 * v
        · omega
        · exfalso
          have : Q * (2 * v + 2) ≤ Q * h := Nat.mul_le_mul_left _ (by omega)
          rw [Nat.mul_add, Nat.mul_left_comm, Nat.mul_comm Q v] at this
          omega
  have c2 : (2 * h == 2 * (2 * v + s)) = (Q * h == 2 * (v * Q + r)) := by
    by_cases hr0 : r = 0
    · have hs0 : s = 0 := by rw [hs, hr0]; rfl
      rw [hs0, hr0]
      have e : 2 * (v * Q + 0) = Q * (2 * v) := by rw [Nat.add_zero, Nat.mul_comm v Q, Nat.mul_left_comm]
      rw [e]
      by_cases h1 : h = 2 * v
      · rw [show (2 * h == 2 * (2 * v + 0)) = true from by rw [beq_iff_eq]; omega, show (Q * h == Q * (2 * v)) = true from by rw [h1]; exact beq_self_eq_true _]
      · rw [show (2 * h == 2 * (2 * v + 0)) = false from by rw [beq_eq_false_iff_ne]; omega]
        refine (beq_eq_false_iff_ne.2 (fun h2 => h1 (Nat.eq_of_mul_eq_mul_left hQ h2))).symm
    · have hs2 : s = 1 := by
        rw [hs]
        have : (r != 0) = true := by simpa using hr0
        rw [this]; rfl
      rw [hs2]
      rw [show (2 * h == 2 * (2 * v + 1)) = false from by rw [beq_eq_false_iff_ne]; omega]
      refine (beq_eq_false_iff_ne.2 (fun h1 => ?_)).symm
      by_cases h2 : h ≤ 2 * v
      · have : Q * h ≤ Q * (2 * v) := Nat.mul_le_mul_left _ (by omega)
        rw [Nat.mul_left_comm, Nat.mul_comm Q v] at this
        omega
      · have : Q * (2 * v + 2) ≤ Q * h := Nat.mul_le_mul_left _ (by omega)
        rw [Nat.mul_add, Nat.mul_left_comm, Nat.mul_comm Q v] at this
        omega
  rw [c1, c2]
end Go.Proofs.YtcbkgammlfjjoaaDoor
namespace Go.Proofs.YtcbkgammlfjjoaaDoor
set_option linter.unusedVariables false
set_option linter.unusedSimpArgs false
open Go.RowKit Go.Proofs.YtcbkgammlfjjoaaDoorW.PrintWords Go.Proofs.YtcbkgammlfjjoaaDoorW.PrintLast Go.Proofs.YtcbkgammlfjjoaaDoorW.PrintMore
open Ieee

theorem quo_form (a b : Nat) (ha : 0 < a) (ha2 : a < 9007199254740992) (hb : 0 < b) (hb2 : b < 9007199254740992) :
    ∃ (P Q : Nat) (i : Int), 0 < Q ∧ 9007199254740992 * Q ≤ P ∧ P < 36028797018963968 * Q ∧ -200 ≤ i ∧ i ≤ -2 ∧ P * 2 ^ (i + 3000).toNat * b = a * Q * 2 ^ ((0 : Int) + 3000).toNat ∧ floatBits .quo .f64 (foi a) (foi b) = some (Ieee.double.nearest false (2 * (P / Q) + (P % Q != 0).toNat) (i - 1)) := by
  obtain ⟨e, he, hr, h1, h2⟩ := foi_norm a ha ha2
  obtain ⟨f, hf, hs, h3, h4⟩ := foi_norm b hb hb2
  obtain ⟨A, hA⟩ : ∃ A, A = a * 2 ^ e := ⟨_, rfl⟩
  obtain ⟨B, hB⟩ : ∃ B, B = b * 2 ^ f := ⟨_, rfl⟩
  have hv : A * 18014398509481984 * 2 ^ (-(e : Int) - -(f : Int) - 54 + 3000).toNat * b = a * B * 2 ^ ((0 : Int) + 3000).toNat := by
    obtain ⟨c, hc⟩ : ∃ c, c = (-(e : Int) - -(f : Int) - 54 + 3000).toNat := ⟨_, rfl⟩
    obtain ⟨z, hz⟩ : ∃ z, z = ((0 : Int) + 3000).toNat := ⟨_, rfl⟩
    rw [← hc, ← hz, hA, hB]
    have e1 : 18014398509481984 = 2 ^ 54 := by decide
    have e2 : 2 ^ e * 2 ^ 54 * 2 ^ c = 2 ^ f * 2 ^ z := by
      rw [← Nat.pow_add, ← Nat.pow_add, ← Nat.pow_add]
      congr 1
      omega
    rw [e1, Nat.mul_assoc a, Nat.mul_assoc a, e2]
    simp only [Nat.mul_assoc, Nat.mul_left_comm, Nat.mul_comm]
  rw [← hA] at hr h1 h2
  rw [← hB] at hs h3 h4
  refine ⟨A * 18014398509481984, B, -(e : Int) - -(f : Int) - 54, by omega, by omega, by omega, by omega, by omega, hv, ?_⟩
  show Ieee.double.div (foi a) (foi b) = _
  unfold Format.div
  rw [hr, hs]
  have hq : Datum.quotient (Ieee.double.fractionBits + 2) (.number false A (-(e : Int))) (.number false B (-(f : Int))) = some (.number false (2 * (A * 18014398509481984 / B) + (A * 18014398509481984 % B != 0).toNat) (-(e : Int) - -(f : Int) - 54 - 1)) := by
    rw [show Ieee.double.fractionBits + 2 = 54 from by decide]
    simp only [Datum.quotient]
    rw [if_neg (by omega), log2_52 h1 h2, log2_52 h3 h4, Nat.shiftLeft_eq]
    rfl
  rw [hq]
  rfl
/-- what a fraction's float hangs on -/
theorem frac_near {P Q P' Q' : Nat} {i i' : Int} (hQ : 0 < Q) (hQ' : 0 < Q') (h1 : 9007199254740992 * Q ≤ P) (h2 : P < 36028797018963968 * Q) (h1' : 9007199254740992 * Q' ≤ P') (h2' : P' < 36028797018963968 * Q')
    (hi : -200 ≤ i ∧ i ≤ 100) (hi' : -200 ≤ i' ∧ i' ≤ 100) (h : P * 2 ^ (i + 3000).toNat * Q' = P' * 2 ^ (i' + 3000).toNat * Q) :
    Ieee.double.nearest false (2 * (P / Q) + (P % Q != 0).toNat) (i - 1) = Ieee.double.nearest false (2 * (P' / Q') + (P' % Q' != 0).toNat) (i' - 1) := by
  have key : ∀ (P Q : Nat), 0 < Q → 9007199254740992 * Q ≤ P → P < 36028797018963968 * Q → ∃ L, 54 ≤ L ∧ L ≤ 55 ∧ (2 * (P / Q) + (P % Q != 0).toNat).log2 = L ∧ 2 * (P / Q) + (P % Q != 0).toNat ≠ 0 ∧ 2 ^ (L - 1) * Q ≤ P ∧ P < 2 ^ L * Q := by
    intro P Q hQ h1 h2
    have hq1 : 9007199254740992 ≤ P / Q := (Nat.le_div_iff_mul_le hQ).2 h1
    have hq2 : P / Q < 36028797018963968 := (Nat.div_lt_iff_lt_mul hQ).2 h2
    have hs := toNat_le (P % Q != 0)
    obtain ⟨s, hs2⟩ : ∃ s, s = (P % Q != 0).toNat := ⟨_, rfl⟩
    rw [← hs2] at hs ⊢
    by_cases h3 : P / Q < 18014398509481984
    · refine ⟨54, by omega, by omega, log2_of (by omega) (by omega), by omega, ?_, ?_⟩
      · rw [show (2 : Nat) ^ (54 - 1) = 9007199254740992 from by decide]; exact h1
      · rw [show (2 : Nat) ^ 54 = 18014398509481984 from by decide]; exact (Nat.div_lt_iff_lt_mul hQ).1 h3
    · refine ⟨55, by omega, by omega, log2_of (by omega) (by omega), by omega, ?_, ?_⟩
      · rw [show (2 : Nat) ^ (55 - 1) = 18014398509481984 from by decide]; exact (Nat.le_div_iff_mul_le hQ).1 (by omega)
      · rw [show (2 : Nat) ^ 55 = 36028797018963968 from by decide]; exact h2
  have keep : ∀ (P Q L : Nat) (i : Int), 0 < Q → 54 ≤ L → -200 ≤ i → i ≤ 100 → (2 * (P / Q) + (P % Q != 0).toNat).log2 = L → lastP (2 * (P / Q) + (P % Q != 0).toNat) (i - 1) = i + L - 53 ∧ kept (2 * (P / Q) + (P % Q != 0).toNat) (i - 1) = rnd P (Q * 2 ^ (L - 53)) := by
    intro P Q L i hQ hL hi1 hi2 hl
    have hlast : lastP (2 * (P / Q) + (P % Q != 0).toNat) (i - 1) = i + L - 53 := by
      unfold lastP
      rw [hl]
      omega
    refine ⟨hlast, ?_⟩
    unfold kept
    rw [hlast, show (i - 1 - (i + L - 53)).toNat = 0 from by omega, Nat.pow_zero, Nat.mul_one, show (i + L - 53 - (i - 1)).toNat = (L - 53) + 1 from by omega, Nat.pow_succ, Nat.mul_comm (2 ^ (L - 53)) 2]
    refine stick P Q (2 ^ (L - 53)) hQ ?_ (Nat.pow_pos (by decide))
    obtain ⟨y, hy⟩ : ∃ y, L - 53 = y + 1 := ⟨L - 54, by omega⟩
    rw [hy, Nat.pow_succ, Nat.mul_mod_left]
  obtain ⟨L, l1, l2, l3, l4, l5, l6⟩ := key P Q hQ h1 h2
  obtain ⟨L', m1, m2, m3, m4, m5, m6⟩ := key P' Q' hQ' h1' h2'
  obtain ⟨k1, k2⟩ := keep P Q L i hQ l1 hi.1 hi.2 l3
  obtain ⟨n1, n2⟩ := keep P' Q' L' i' hQ' m1 hi'.1 hi'.2 m3
  obtain ⟨t, ht⟩ : ∃ t, t = (i + 3000).toNat := ⟨_, rfl⟩
  obtain ⟨t', ht'⟩ : ∃ t', t' = (i' + 3000).toNat := ⟨_, rfl⟩
  rw [← ht, ← ht'] at h
  have up : ∀ (P Q P' Q' t t' L L' : Nat), 0 < Q → 0 < Q' → 1 ≤ L → 2 ^ (L - 1) * Q ≤ P → P' < 2 ^ L' * Q' → P * 2 ^ t * Q' = P' * 2 ^ t' * Q → L + t ≤ L' + t' := by
    intro P Q P' Q' t t' L L' hQ hQ' hL a1 a2 a3
    have b1 : 2 ^ (L - 1) * Q * 2 ^ t * Q' ≤ P * 2 ^ t * Q' := Nat.mul_le_mul_right _ (Nat.mul_le_mul_right _ a1)
    have b2 : P' * 2 ^ t' * Q < 2 ^ L' * Q' * 2 ^ t' * Q := Nat.mul_lt_mul_of_pos_right (Nat.mul_lt_mul_of_pos_right a2 (Nat.pow_pos (by decide))) hQ
    have b3 : 2 ^ (L - 1) * Q * 2 ^ t * Q' < 2 ^ L' * Q' * 2 ^ t' * Q := by rw [a3] at b1; exact Nat.lt_of_le_of_lt b1 b2
    have e1 : 2 ^ (L - 1) * Q * 2 ^ t * Q' = 2 ^ (L - 1 + t) * (Q * Q') := by rw [Nat.pow_add]; simp only [Nat.mul_assoc, Nat.mul_left_comm, Nat.mul_comm]
    have e2 : 2 ^ L' * Q' * 2 ^ t' * Q = 2 ^ (L' + t') * (Q * Q') := by rw [Nat.pow_add]; simp only [Nat.mul_assoc, Nat.mul_left_comm, Nat.mul_comm]
    rw [e1, e2] at b3
    have b4 := Nat.lt_of_mul_lt_mul_right b3
    have b5 := (Nat.pow_lt_pow_iff_right (by decide : 1 < 2)).1 b4
    omega
  have u1 := up P Q P' Q' t t' L L' hQ hQ' (by omega) l5 m6 h
  have u2 := up P' Q' P Q t' t L' L hQ' hQ (by omega) m5 l6 h.symm
  have hp : i + L = i' + L' := by omega
  have hk : rnd P (Q * 2 ^ (L - 53)) = rnd P' (Q' * 2 ^ (L' - 53)) := by
    have hx : P * (Q' * 2 ^ (L' - 53)) = P' * (Q * 2 ^ (L - 53)) := by
      refine Nat.eq_of_mul_eq_mul_right (Nat.pow_pos (n := t) (by decide : 0 < 2)) ?_
      have e1 : P * (Q' * 2 ^ (L' - 53)) * 2 ^ t = P * 2 ^ t * Q' * 2 ^ (L' - 53) := by simp only [Nat.mul_assoc, Nat.mul_left_comm, Nat.mul_comm]
      have e2 : P' * (Q * 2 ^ (L - 53)) * 2 ^ t = P' * Q * (2 ^ (L - 53) * 2 ^ t) := by simp only [Nat.mul_assoc, Nat.mul_left_comm, Nat.mul_comm]
      have e3 : P' * 2 ^ t' * Q * 2 ^ (L' - 53) = P' * Q * (2 ^ (L' - 53) * 2 ^ t') := by simp only [Nat.mul_assoc, Nat.mul_left_comm, Nat.mul_comm]
      rw [e1, h, e2, e3, ← Nat.pow_add, ← Nat.pow_add, show L' - 53 + t' = L - 53 + t from by omega]
    rw [← rnd_scale P (Q * 2 ^ (L - 53)) (Q' * 2 ^ (L' - 53)) (Nat.mul_pos hQ' (Nat.pow_pos (by decide))), ← rnd_scale P' (Q' * 2 ^ (L' - 53)) (Q * 2 ^ (L - 53)) (Nat.mul_pos hQ (Nat.pow_pos (by decide))), hx, Nat.mul_comm (Q * 2 ^ (L - 53))]
  rw [nearest_eq, nearest_eq]
  congr 1
  unfold rung
  rw [if_neg l4, if_neg m4, k1, k2, n1, n2, hk, hp]
/-- fractions that are the same have the same float -/
theorem quo_ratio (a b a' b' : Nat) (ha : 0 < a) (ha2 : a < 9007199254740992) (hb : 0 < b) (hb2 : b < 9007199254740992) (ha' : 0 < a') (ha2' : a' < 9007199254740992) (hb' : 0 < b') (hb2' : b' < 9007199254740992) (h : a * b' = a' * b) :
    ∃ r, floatBits .quo .f64 (foi a) (foi b) = some r ∧ floatBits .quo .f64 (foi a') (foi b') = some r := by
  obtain ⟨P, Q, i, hQ, h1, h2, h3, h4, h5, h6⟩ := quo_form a b ha ha2 hb hb2
  obtain ⟨P', Q', i', hQ', h1', h2', h3', h4', h5', h6'⟩ := quo_form a' b' ha' ha2' hb' hb2'
  refine ⟨_, h6, ?_⟩
  rw [h6']
  congr 1
  refine (frac_near hQ hQ' h1 h2 h1' h2' ⟨h3, by omega⟩ ⟨h3', by omega⟩ ?_).symm
  obtain ⟨K, hK⟩ : ∃ K, K = 2 ^ ((0 : Int) + 3000).toNat := ⟨_, rfl⟩
  obtain ⟨X, hX⟩ : ∃ X, X = P * 2 ^ (i + 3000).toNat := ⟨_, rfl⟩
  obtain ⟨Y, hY⟩ : ∃ Y, Y = P' * 2 ^ (i' + 3000).toNat := ⟨_, rfl⟩
  rw [← hK, ← hX] at h5
  rw [← hK, ← hY] at h5'
  rw [← hX, ← hY]
  refine Nat.eq_of_mul_eq_mul_right (Nat.mul_pos hb hb') ?_
  have e1 : X * Q' * (b * b') = X * b * (Q' * b') := by simp only [Nat.mul_assoc, Nat.mul_left_comm, Nat.mul_comm]
  have e2 : Y * Q * (b * b') = Y * b' * (Q * b) := by simp only [Nat.mul_assoc, Nat.mul_left_comm, Nat.mul_comm]
  have e3 : a * Q * K * (Q' * b') = a * b' * (Q * Q' * K) := by simp only [Nat.mul_assoc, Nat.mul_left_comm, Nat.mul_comm]
  have e4 : a' * Q' * K * (Q * b) = a' * b * (Q * Q' * K) := by simp only [Nat.mul_assoc, Nat.mul_left_comm, Nat.mul_comm]
  rw [e1, e2, h5, h5', e3, e4, h]
/-- a quotient that is a whole number is exact -/
theorem quo_exact (d b : Nat) (hd : 0 < d) (hb : 0 < b) (h : d * b < 9007199254740992) : floatBits .quo .f64 (foi ((d * b : Nat) : Int)) (foi b) = some (foi d) := by
  have hb2 : b < 9007199254740992 := Nat.lt_of_le_of_lt (Nat.le_mul_of_pos_left b hd) h
  obtain ⟨P, Q, i, hQ, h1, h2, h3, h4, h5, h6⟩ := quo_form (d * b) b (Nat.mul_pos hd hb) h hb hb2
  rw [h6, foi_eq]
  congr 1
  obtain ⟨t, ht⟩ : ∃ t, t = (i + 3000).toNat := ⟨_, rfl⟩
  obtain ⟨z, hz⟩ : ∃ z, z = ((0 : Int) + 3000).toNat := ⟨_, rfl⟩
  rw [← ht, ← hz] at h5
  obtain ⟨y, hy⟩ : ∃ y, z = t + y := ⟨z - t, by omega⟩
  have hP : P = d * 2 ^ y * Q := by
    refine Nat.eq_of_mul_eq_mul_right (Nat.mul_pos (Nat.pow_pos (n := t) (by decide : 0 < 2)) hb) ?_
    have e1 : P * (2 ^ t * b) = P * 2 ^ t * b := by simp only [Nat.mul_assoc]
    have e2 : d * 2 ^ y * Q * (2 ^ t * b) = d * b * Q * (2 ^ t * 2 ^ y) := by simp only [Nat.mul_assoc, Nat.mul_left_comm, Nat.mul_comm]
    rw [e1, e2, h5, hy, Nat.pow_add]
  have hdiv : P / Q = d * 2 ^ y := by rw [hP, Nat.mul_div_cancel _ hQ]
  have hmod : P % Q = 0 := by rw [hP, Nat.mul_mod_left]
  rw [hdiv, hmod]
  refine near_eq (by omega) (by decide) ?_
  show (2 * (d * 2 ^ y) + 0) * _ = _
  have e3 : (i - 1 + 3000).toNat + 1 = t := by omega
  rw [← hz, hy, Nat.add_zero, ← e3]
  rw [Nat.pow_add, Nat.pow_succ]
  simp only [Nat.mul_assoc, Nat.mul_left_comm, Nat.mul_comm]
end Go.Proofs.YtcbkgammlfjjoaaDoor
namespace Go.Proofs.YtcbkgammlfjjoaaDoor
set_option linter.unusedVariables false
set_option linter.unusedSimpArgs false
open Go.RowKit Go.Proofs.YtcbkgammlfjjoaaDoorW.PrintWords Go.Proofs.YtcbkgammlfjjoaaDoorW.PrintLast Go.Proofs.YtcbkgammlfjjoaaDoorW.PrintMore

theorem mask_in (n : Int) (m : Nat) (k : Nat) (hm : m = 2 ^ k - 1) (hk : k ≤ 16) : 0 ≤ bits .and .i64 n (m : Int) ∧ bits .and .i64 n (m : Int) ≤ m := by
  have hb : (2 : Nat) ^ k ≤ 65536 := by
    have := Nat.pow_le_pow_right (n := 2) (by decide) hk
    exact Nat.le_trans this (by decide)
  have hp : 0 < 2 ^ k := Nat.pow_pos (by decide)
  have e : (BitVec.ofInt 64 n &&& BitVec.ofInt 64 (m : Int)).toNat ≤ m := by
    rw [BitVec.toNat_and, BitVec.ofInt_natCast, BitVec.toNat_ofNat, Nat.mod_eq_of_lt (a := m) (by omega), hm, Nat.and_two_pow_sub_one_eq_mod]
    have := Nat.mod_lt (BitVec.ofInt 64 n).toNat hp
    omega
  have e2 : bits .and .i64 n (m : Int) = ((BitVec.ofInt 64 n &&& BitVec.ofInt 64 (m : Int)).toNat : Int) := by
    show IntKind.i64.wrap ((BitVec.ofInt 64 n &&& BitVec.ofInt 64 (m : Int)).toNat : Int) = _
    exact IntWalk.i64_in _ ⟨by omega, by omega⟩
  rw [e2]
  omega
theorem mask_one (i : Nat) (hi : i < 65536) : bits .and .i64 (i : Int) 1 = ((i % 2 : Nat) : Int) := by
  have e : (BitVec.ofInt 64 (i : Int) &&& BitVec.ofInt 64 1).toNat = i % 2 := by
    rw [BitVec.toNat_and, BitVec.ofInt_natCast, BitVec.toNat_ofNat, Nat.mod_eq_of_lt (a := i) (by omega), show (BitVec.ofInt 64 1).toNat = 2 ^ 1 - 1 from by decide, Nat.and_two_pow_sub_one_eq_mod]
  show IntKind.i64.wrap ((BitVec.ofInt 64 (i : Int) &&& BitVec.ofInt 64 1).toNat : Int) = _
  rw [e]
  exact IntWalk.i64_in _ ⟨by omega, by omega⟩
def bitE (i : Nat) : ByteArray := if i % 2 = 1 then b1 else b0
def chE (d i : Nat) : S59 := ⟨((d * i : Nat) : Int), 0, bitE i⟩
def liE (d n : Nat) : List S59 := (List.range n).map (chE d)
def xE (d n : Nat) : WV := ⟨[bA], [1], [bX], liE d n⟩
theorem liE_length (d n : Nat) : (liE d n).length = n := by unfold liE; rw [List.length_map, List.length_range]
theorem liE_succ (d n : Nat) : liE d (n + 1) = liE d n ++ [chE d n] := by unfold liE; rw [List.range_succ, List.map_append]; rfl
theorem cAt_E (d n : Nat) {i : Nat} (hi : i < n) : cAt (xE d n) i = chE d i := by
  unfold cAt
  show (liE d n).getD i z59 = _
  rw [List.getD_eq_getElem?_getD, List.getElem?_eq_getElem (by rw [liE_length]; exact hi)]
  unfold liE
  rw [Option.getD_some, List.getElem_map, List.getElem_range]
theorem nowAt_E (d n : Nat) : ∀ i, i ≤ n → nowAt (xE d n) i = [if i = 0 then bX else bitE (i - 1)]
  | 0, _ => rfl
  | i + 1, h => by
    have ih := nowAt_E d n i (by omega)
    have hi : i < (xE d n).li.length := by show i < (liE d n).length; rw [liE_length]; omega
    have e : (xE d n).li[i] = chE d i := by
      have := cAt_E d n (show i < n by omega)
      unfold cAt at this
      rwa [List.getD_eq_getElem?_getD, List.getElem?_eq_getElem hi, Option.getD_some] at this
    unfold nowAt at ih ⊢
    rw [List.take_succ_eq_append_getElem hi, List.foldl_append, ih, e, if_neg (Nat.succ_ne_zero i)]
    rfl
theorem bit_vOk (i : Nat) : vOk (bitE i) = true ∧ (bitE i).size = 1 := by
  unfold bitE
  split
  · exact ⟨by decide, by decide⟩
  · exact ⟨by decide, by decide⟩
theorem bit_ne (i : Nat) : ((bitE i).toList == (if i = 0 then bX else bitE (i - 1)).toList) = false := by
  by_cases h : i = 0
  · subst h
    show (b0.toList == bX.toList) = false
    kernel_rfl
  · rw [if_neg h]
    unfold bitE
    by_cases h1 : i % 2 = 1
    · rw [if_pos h1, if_neg (by omega)]; kernel_rfl
    · rw [if_neg h1, if_pos (by omega)]; kernel_rfl
theorem may_E (d n : Nat) (hd : 0 < d) (hd2 : d ≤ 65536) (hn : n ≤ 65) : May (xE d n) := by
  refine ⟨by show 1 ≤ 4096; decide, rfl, rfl, fun j hj => ?_, fun i hi => ?_⟩
  · have : j = 0 := by have : j < 1 := hj; omega
    subst this
    show nOk bA && (vOk bX && decide (((bX.size : Nat) : Int) = 1)) = true
    decide
  · have hi' : i < n := by have : i < (liE d n).length := hi; rwa [liE_length] at this
    have hm : d * i ≤ 65536 * 65 := Nat.mul_le_mul hd2 (by omega)
    have e := cAt_E d n hi'
    refine ⟨?_, ?_⟩
    · unfold placeB
      rw [e]
      have a1 : decide (0 ≤ (chE d i).f1) = true := by show decide ((0 : Int) ≤ 0) = true; decide
      have a2 : decide ((chE d i).f1 < ((xE d n).nm.length : Int)) = true := by show decide ((0 : Int) < 1) = true; decide
      have a3 : decide (0 ≤ (chE d i).f0) = true := decide_eq_true (by show (0 : Int) ≤ ((d * i : Nat) : Int); omega)
      have a4 : decide ((chE d i).f0 ≤ 4611686018427387903) = true := decide_eq_true (by show ((d * i : Nat) : Int) ≤ _; omega)
      rw [a1, a2, a3, a4]
      by_cases h0 : i = 0
      · rw [decide_eq_true h0]; rfl
      · rw [decide_eq_false h0, cAt_E d n (show i - 1 < n by omega)]
        have hl : d * (i - 1) < d * i := Nat.mul_lt_mul_of_pos_left (by omega) hd
        unfold aheadB
        have a5 : decide ((chE d (i - 1)).f0 < (chE d i).f0) = true := decide_eq_true (by show ((d * (i - 1) : Nat) : Int) < ((d * i : Nat) : Int); omega)
        rw [a5]
        rfl
    · unfold valB
      rw [e, nowAt_E d n i (by omega)]
      have b1 := bit_vOk i
      have b2 := bit_ne i
      show (vOk (bitE i) && (decide (((bitE i).size : Int) = 1) && !((bitE i).toList == (if i = 0 then bX else bitE (i - 1)).toList))) = true
      rw [b1.1, b1.2, b2]
      rfl
theorem tms_E (d n : Nat) (hd : 0 < d) : tms (xE d n) 0 ((d * n : Nat) : Int) (xE d n).li.length = (List.range n).map (fun i => ((d * i : Nat) : Int)) := by
  rw [tms_full]
  have hf : (xE d n).li.filter (cnt 0 ((d * n : Nat) : Int)) = liE d n := by
    refine List.filter_eq_self.2 (fun c hc => ?_)
    obtain ⟨i, hi, rfl⟩ := List.mem_map.1 (show c ∈ (List.range n).map (chE d) from hc)
    have := List.mem_range.1 hi
    have hl : d * i ≤ d * n := Nat.mul_le_mul_left _ (by omega)
    unfold cnt
    have a1 : decide ((chE d i).f0 ≤ ((d * n : Nat) : Int)) = true := decide_eq_true (by show ((d * i : Nat) : Int) ≤ _; omega)
    rw [a1]
    rfl
  rw [hf]
  unfold liE
  rw [List.map_map]
  rfl
theorem gaps_even (d : Nat) : ∀ (n s : Nat), gaps ((List.range' s (n + 1)).map (fun i => ((d * i : Nat) : Int))) = List.replicate n (d : Int)
  | 0, s => rfl
  | n + 1, s => by
    have ih := gaps_even d n (s + 1)
    rw [List.range'_succ, List.range'_succ] at *
    simp only [List.map_cons, gaps] at ih ⊢
    rw [List.replicate_succ, ih]
    congr 1
    rw [Nat.mul_add]
    omega
theorem gaps_E (d n : Nat) : gaps ((List.range n).map (fun i => ((d * i : Nat) : Int))) = List.replicate (n - 1) (d : Int) := by
  rw [List.range_eq_range']
  cases n with
  | zero => rfl
  | succ n => exact gaps_even d n 0
theorem FR_some {op : BinOp} {x y r v : Nat} (h : FR op x y r) (hv : floatBits op .f64 x y = some v) : r = v := by
  rcases h.2 with h | ⟨h, _⟩
  · rw [hv] at h; exact (Option.some.inj h).symm
  · rw [hv] at h; cases h
theorem rep_getD (d k i : Nat) (hi : i < k) : (List.replicate k (d : Int)).getD i 0 = d := by
  rw [List.getD_eq_getElem?_getD, List.getElem?_replicate, if_pos hi]
  rfl
theorem sum_E (d k : Nat) (h : d * k < 9007199254740992) : ∀ i s, i ≤ k → SumR (List.replicate k (d : Int)) i s → s = foi ((d * i : Nat) : Int)
  | 0, s, _, hs => by
    have e : s = 0 := hs
    rw [e, Nat.mul_zero]
    exact foi_zero.symm
  | i + 1, s, hi, ⟨a, h1, h2⟩ => by
    have ih := sum_E d k h i a (by omega) h1
    rw [rep_getD d k i (by omega), ih] at h2
    have hl : d * (i + 1) ≤ d * k := Nat.mul_le_mul_left _ hi
    rw [Nat.mul_add, Nat.mul_one] at hl ⊢
    exact FR_some h2 (add_exact (d * i) d (by omega))
theorem sq_E (d k : Nat) (h : d < 9007199254740992) : ∀ i s, i ≤ k → SqR (List.replicate k (d : Int)) (foi d) i s → s = 0
  | 0, s, _, hs => hs
  | i + 1, s, hi, ⟨a, e, q, h1, h2, h3, h4⟩ => by
    have ih := sq_E d k h i a (by omega) h1
    rw [rep_getD d k i (by omega)] at h2
    have he := FR_some h2 (sub_self d h)
    have m0 : floatBits .mul .f64 0 0 = some 0 := by kernel_rfl
    have s0 : floatBits .add .f64 0 0 = some 0 := by kernel_rfl
    rw [he] at h3
    have hq := FR_some h3 m0
    rw [ih, hq] at h4
    exact FR_some h4 s0
theorem foi_lt_inf (d : Nat) (h : d < 9007199254740992) : foi d < 9218868437227405312 := by
  have hp : foi d ≤ 9218868437227405312 := foi_pos (by omega)
  rcases Nat.lt_or_ge (foi d) 9218868437227405312 with h1 | h1
  · exact h1
  · exfalso
    have e : foi d = 9218868437227405312 := Nat.le_antisymm hp h1
    obtain ⟨m, p, hr, -⟩ := foi_val d h
    have hi : Ieee.double.read 9218868437227405312 = .infinity false := by kernel_rfl
    rw [e, hi] at hr
    cases hr
theorem least_E (d k : Nat) (h : d < 9007199254740992) : ∀ i, i < k → leastF (List.replicate k (d : Int)) (i + 1) = foi d
  | 0, hi => by
    show minF 9218868437227405312 (foi ((List.replicate k (d : Int)).getD 0 0)) = _
    rw [rep_getD d k 0 hi]
    unfold minF
    rw [ltB_pos (Nat.le_refl _) (foi_pos (by omega)), decide_eq_true (foi_lt_inf d h), if_pos rfl]
  | i + 1, hi => by
    have ih := least_E d k h i (by omega)
    show minF (leastF (List.replicate k (d : Int)) (i + 1)) (foi ((List.replicate k (d : Int)).getD (i + 1) 0)) = _
    rw [ih, rep_getD d k (i + 1) hi]
    unfold minF
    split <;> rfl
theorem most_E (d k : Nat) (h : d < 9007199254740992) : ∀ i, i < k → mostF (List.replicate k (d : Int)) (i + 1) = foi d
  | 0, hi => by
    show maxF 18442240474082181120 (foi ((List.replicate k (d : Int)).getD 0 0)) = _
    rw [rep_getD d k 0 hi]
    have hp : Pos (foi d) := foi_pos (by omega)
    have hl : ltB 18442240474082181120 (foi d) = true := by
      have h1 : ky 18442240474082181120 = - big := by
        have := (ky_inf true).1
        rw [show Ieee.double.word true 9218868437227405312 = 18442240474082181120 from by decide] at this
        rw [this]; simp
      have hn : nanB 18442240474082181120 = false := by kernel_rfl
      have h2 := rval_nonneg (foi d)
      have h3 := big_pos
      unfold ltB
      rw [hn, hp.ky.2, h1, hp.ky.1, decide_eq_true (by omega)]
      rfl
    unfold maxF
    rw [hl, if_pos rfl]
  | i + 1, hi => by
    have ih := most_E d k h i (by omega)
    show maxF (mostF (List.replicate k (d : Int)) (i + 1)) (foi ((List.replicate k (d : Int)).getD (i + 1) 0)) = _
    rw [ih, rep_getD d k (i + 1) hi]
    unfold maxF
    split <;> rfl
/-- the numbers of such a waveform -/
theorem of_E (d n : Nat) (hd : 0 < d) (hd2 : d ≤ 65536) (hn : 2 ≤ n) (hn2 : n ≤ 65) {c : Int} {r m s a b : Nat} (h : OfR (tms (xE d n) 0 ((d * n : Nat) : Int) (xE d n).li.length) ((d * n : Nat) : Int) c r m s a b) :
    c = n ∧ m = foi d ∧ a = foi d ∧ b = foi d ∧ s = 0 ∧ floatBits .quo .f64 4607182418800017408 (foi d) = some r := by
  rw [tms_E d n hd] at h
  have hg := gaps_E d n
  have hlen : ((List.range n).map (fun i => ((d * i : Nat) : Int))).length = n := by rw [List.length_map, List.length_range]
  have hdn : d * n ≤ 65536 * 65 := Nat.mul_le_mul hd2 hn2
  have hdk : d * (n - 1) ≤ d * n := Nat.mul_le_mul_left _ (by omega)
  obtain ⟨h1, h2, ⟨sum, h3, h4⟩, ⟨sq, h5, h6⟩, h7, h8⟩ := h
  rw [hg, List.length_replicate] at h3 h4 h5 h6 h7 h8
  rw [hlen] at h1 h2
  have es := sum_E d (n - 1) (by omega) (n - 1) sum (Nat.le_refl _) h3
  rw [es] at h4
  have em := FR_some h4 (quo_exact d (n - 1) hd (by omega) (by omega))
  rw [em] at h5
  have eq := sq_E d (n - 1) (by omega) (n - 1) sq (Nat.le_refl _) h5
  rw [eq] at h6
  have e6 := FR_some h6 (quo_zero (n - 1) (by omega) (by omega))
  have hk : n - 1 = (n - 2) + 1 := by omega
  have e7 : leastF (List.replicate (n - 1) (d : Int)) (n - 1) = foi d := by
    have := least_E d (n - 1) (by omega) (n - 2) (by omega)
    rwa [← hk] at this
  have e8 : mostF (List.replicate (n - 1) (d : Int)) (n - 1) = foi d := by
    have := most_E d (n - 1) (by omega) (n - 2) (by omega)
    rwa [← hk] at this
  obtain ⟨r', hr1, hr2⟩ := quo_ratio n (d * n) 1 d (by omega) (by omega) (Nat.mul_pos hd (by omega)) (by omega) (by decide) (by decide) hd (by omega) (by rw [Nat.one_mul, Nat.mul_comm])
  have er := FR_some h2 hr1
  have h1' : foi ((1 : Nat) : Int) = 4607182418800017408 := by kernel_rfl
  rw [h1'] at hr2
  exact ⟨h1, em, h7.trans e7, h8.trans e8, e6, by rw [er]; exact hr2⟩
end Go.Proofs.YtcbkgammlfjjoaaDoor
namespace Go.Proofs.YtcbkgammlfjjoaaDoor
set_option linter.unusedVariables false
set_option linter.unusedSimpArgs false
open Go.RowKit Go.Proofs.YtcbkgammlfjjoaaDoorW.PrintWords Go.Proofs.YtcbkgammlfjjoaaDoorW.PrintLast Go.Proofs.YtcbkgammlfjjoaaDoorW.PrintMore

/-- the waveform's box while its list grows -/
structure Ev (w W wx : World) (v : Value) (l : List S59) : Prop where
  k0 : wx.cell? ⟨w.heap.size + 1 + 1 + 1, 0, none⟩ = some (.slice (some ⟨w.heap.size, 0, none⟩) 1 1)
  k1 : wx.cell? ⟨w.heap.size + 1 + 1 + 1, 1, none⟩ = some (.slice (some ⟨w.heap.size + 1, 0, none⟩) 1 1)
  k2 : wx.cell? ⟨w.heap.size + 1 + 1 + 1, 2, none⟩ = some (.slice (some ⟨w.heap.size + 1 + 1, 0, none⟩) 1 1)
  k3 : wx.cell? ⟨w.heap.size + 1 + 1 + 1, 3, none⟩ = some v
  f3 : wx.frozen? ⟨w.heap.size + 1 + 1 + 1, 3, none⟩ = false
  r : Kd.R k59 59 wx W.heap.size (fun _ => True) v l
  b : Below (w.heap.size + 1 + 1 + 1) W wx
  s : W.heap.size ≤ wx.heap.size
theorem Ev.next {w W wx w9 : World} {v v1 : Value} {l l' : List S59} (h : Ev w W wx v l) (hz : W.heap.size = w.heap.size + 1 + 1 + 1 + 1) (hb : Below W.heap.size wx w9) (ho : Kd.R k59 59 w9 W.heap.size (fun _ => True) v1 l') : Ev w W (w9.setCell ⟨w.heap.size + 1 + 1 + 1, 3, none⟩ v1) v1 l' := by
  have hl : w.heap.size + 1 + 1 + 1 < W.heap.size := by omega
  have k0 := (hb.cell (p := ⟨w.heap.size + 1 + 1 + 1, 0, none⟩) hl).trans h.k0
  have k1 := (hb.cell (p := ⟨w.heap.size + 1 + 1 + 1, 1, none⟩) hl).trans h.k1
  have k2 := (hb.cell (p := ⟨w.heap.size + 1 + 1 + 1, 2, none⟩) hl).trans h.k2
  have k3 := (hb.cell (p := ⟨w.heap.size + 1 + 1 + 1, 3, none⟩) hl).trans h.k3
  have f3 := (hb.frozen (p := ⟨w.heap.size + 1 + 1 + 1, 3, none⟩) hl).trans h.f3
  have hs : w.heap.size + 1 + 1 + 1 < w9.heap.size := by have := h.s; have := hb.size; omega
  refine ⟨by simp [go_sem, k0], by simp [go_sem, k1], by simp [go_sem, k2], by simp [go_sem, k3], by simp [go_sem, f3], R_off ho hl, ?_, ?_⟩
  · exact below_set2 (Nat.le_refl _) (h.b.trans (hb.mono (by omega)))
  · have := h.s; have := hb.size; simpa using (show W.heap.size ≤ w9.heap.size by omega)
set_option maxRecDepth 100000 in
set_option maxHeartbeats 4000000 in
theorem even_any (many apart : Int) (w : World) (_ : (Lit.int .i64 many).wf = true) (_ : (Lit.int .i64 apart).wf = true) :
    Calls Tryd.prog 11 #[.int .i64 many, .int .i64 apart] w fun e w' => e = .returned (.bool true) ∧ Below w.heap.size w w' := by
  obtain ⟨k, hk, hk2⟩ : ∃ k : Nat, bits .and .i64 many 63 = (k : Int) ∧ k ≤ 63 := by
    have h : 0 ≤ bits .and .i64 many 63 ∧ bits .and .i64 many 63 ≤ 63 := mask_in many 63 6 (by decide) (by decide)
    exact ⟨(bits .and .i64 many 63).toNat, by have := h.1; omega, by have := h.1; have := h.2; omega⟩
  obtain ⟨q, hq, hq2⟩ : ∃ q : Nat, bits .and .i64 apart 65535 = (q : Int) ∧ q ≤ 65535 := by
    have h : 0 ≤ bits .and .i64 apart 65535 ∧ bits .and .i64 apart 65535 ≤ 65535 := mask_in apart 65535 16 (by decide) (by decide)
    exact ⟨(bits .and .i64 apart 65535).toNat, by have := h.1; omega, by have := h.1; have := h.2; omega⟩
  obtain ⟨n, hn⟩ : ∃ n : Nat, n = 2 + k := ⟨_, rfl⟩
  obtain ⟨d, hd⟩ : ∃ d : Nat, d = 1 + q := ⟨_, rfl⟩
  have HN := Lib.hid (show 2 ≤ n ∧ n ≤ 65 by omega)
  have HD := Lib.hid (show 0 < d ∧ d ≤ 65536 by omega)
  have hsf := store_float
  go_enter Tryd.func11, Tryd.ntmps11
  go_upto_region 2 with fail
  have en : (2 : Int) + (k : Int) = (n : Int) := by omega
  have ed : (1 : Int) + (q : Int) = (d : Int) := by omega
  rw [en, ed]
  clear en ed hn hd
  go_upto_region 3 with fail
  obtain ⟨W, hW⟩ : ∃ W, ((((w.alloc (Obj.cells #[Value.string bA] 9)).alloc (Obj.cells #[Value.int IntKind.i64 1] 3)).alloc (Obj.cells #[Value.string bX] 9)).alloc (Obj.cells #[Value.slice (some ⟨w.heap.size, 0, none⟩) 1 1, Value.slice (some ⟨w.heap.size + 1, 0, none⟩) 1 1, Value.slice (some ⟨w.heap.size + 1 + 1, 0, none⟩) 1 1, Value.slice none 0 0] 26)) = W := ⟨_, rfl⟩
  have hb : Below w.heap.size w W := by rw [← hW]; exact below_alloc (below_alloc (below_alloc (below_alloc (Below.refl _ _) _) _) _) _
  have hs : W.heap.size = w.heap.size + 1 + 1 + 1 + 1 := by rw [← hW]; simp
  have k0 : W.cell? ⟨w.heap.size, 0, none⟩ = some (.string bA) := by rw [← hW]; simp [go_sem]
  have k1 : W.cell? ⟨w.heap.size + 1, 0, none⟩ = some (.int .i64 1) := by rw [← hW]; simp [go_sem]
  have k2 : W.cell? ⟨w.heap.size + 1 + 1, 0, none⟩ = some (.string bX) := by rw [← hW]; simp [go_sem]
  have a0 : W.cell? ⟨w.heap.size + 1 + 1 + 1, 0, none⟩ = some (.slice (some ⟨w.heap.size, 0, none⟩) 1 1) := by rw [← hW]; simp [go_sem]
  have a1 : W.cell? ⟨w.heap.size + 1 + 1 + 1, 1, none⟩ = some (.slice (some ⟨w.heap.size + 1, 0, none⟩) 1 1) := by rw [← hW]; simp [go_sem]
  have a2 : W.cell? ⟨w.heap.size + 1 + 1 + 1, 2, none⟩ = some (.slice (some ⟨w.heap.size + 1 + 1, 0, none⟩) 1 1) := by rw [← hW]; simp [go_sem]
  have a3 : W.cell? ⟨w.heap.size + 1 + 1 + 1, 3, none⟩ = some (.slice none 0 0) := by rw [← hW]; simp [go_sem]
  have b3 : W.frozen? ⟨w.heap.size + 1 + 1 + 1, 3, none⟩ = false := by rw [← hW]; simp [go_sem]
  have HK := Lib.hid (And.intro k0 (And.intro k1 k2))
  have HB := Lib.hid hb
  have HZ := Lib.hid hs
  have HZl := Lib.hid (show w.heap.size + 1 + 1 + 1 < W.heap.size by omega)
  have HE := Lib.hid (Ev.mk (w := w) (W := W) (wx := W) (v := .slice none 0 0) (l := []) a0 a1 a2 a3 b3 (Kd.R_nil _ _ _ _ _) (Below.refl _ _) (Nat.le_refl _))
  clear k0 k1 k2 a0 a1 a2 a3 b3 hb hs
  rw [hW]
  clear hW
  have hn1 := HN.out.1
  have hn2 := HN.out.2
  have hd1 := HD.out.1
  have hd2 := HD.out.2
  go_wp2_with fail
  go_loopw [8] (fun v8 wx => ∃ i : Nat, v8 = .int .i64 i ∧ i ≤ n ∧ Hid (∃ v, Ev w W wx v (liE d i))) (fun v8 _ => n - (intOf v8).toNat)
  case atStart => exact ⟨0, rfl, Nat.zero_le _, Lib.hid ⟨_, HE.out⟩⟩
  case round =>
    obtain ⟨i, rfl, hi, HX⟩ := hrel
    obtain ⟨v, hev⟩ := HX.out
    have HV := Lib.hid hev
    obtain ⟨A, cv, hv⟩ := Kd.R_slice hev.r
    subst hv
    have k3 := hev.k3
    have f3 := hev.f3
    have hz : w.heap.size + 1 + 1 + 1 < wr.heap.size := by have := hev.s; have := HZ.out; omega
    clear hev HX
    by_cases hlt : i < n
    · have hm : d * i ≤ 65536 * 65 := Nat.mul_le_mul hd2 (by omega)
      have hmi : (d : Int) * (i : Int) ≤ 4259840 := by rw [← Int.natCast_mul]; omega
      have hmz : 0 ≤ (d : Int) * (i : Int) := by rw [← Int.natCast_mul]; omega
      have hone := mask_one i (by omega)
      have hll := liE_length d i
      have hsu := liE_succ d i
      have HLt := Lib.hid hlt
      have HLl := Lib.hid hll
      generalize liE d i = l at *
      have HSu := Lib.hid hsu
      clear hsu hll hm
      by_cases hp : i % 2 = 1
      · rw [hp] at hone
        have hc : chE d i = ⟨(d : Int) * (i : Int), 0, b1⟩ := by unfold chE bitE; rw [if_pos hp, Int.natCast_mul]
        have HCe := Lib.hid hc
        clear hc hp
        go_wp2_with (first | ((with_reducible refine gate_builtin (b := .append) (xs := #[.tmp 31, .tmp 37]) rfl ?_); at_builtin; refine Kd.R_append k59 (w0 := wr) W.heap.size rfl (.tmp 31) (.tmp 37) 24 59 (.agg #[(.int .i64 0), (.int .i64 0), (.string ⟨#[]⟩)]) 32 rfl Tryd.underlying24 info59 rfl (by decide) (by decide) (.slice A l.length cv) l (⟨(d : Int) * (i : Int), 0, b1⟩ : S59) [.int .i64 ((d : Int) * (i : Int)), .int .i64 0, .string b1] (fun _ => True) (fun _ => False) rfl rfl ?aP (fun _ hk => hk.elim) (fun _ _ => trivial) ?aO ?aB ?aS ?aL ?_; (case aP => exact k59_mkM _ _ _ ⟨(d : Int) * (i : Int), 0, b1⟩); (case aO => exact HV.out.r); (case aB => exact Below.refl _ _); (case aS => exact HV.out.s); (case aL => have := HLl.out; have := HLt.out; omega); intro v1 w9 ho hb hg hat; obtain ⟨A9, c9, he9⟩ := Kd.R_slice ho; subst he9; have HO := Lib.hid ho; have HBo := Lib.hid hb; have k3' := (hb.cell (p := ⟨w.heap.size + 1 + 1 + 1, 3, none⟩) HZl.out).trans k3; have f3' := (hb.frozen (p := ⟨w.heap.size + 1 + 1 + 1, 3, none⟩) HZl.out).trans f3; have hz9 := Nat.lt_of_lt_of_le HZl.out (Nat.le_trans HV.out.s hb.size); clear ho hb hg hat))
        refine ⟨⟨i + 1, by simp, HLt.out, Lib.hid ⟨_, by rw [HSu.out, HCe.out]; have ho := HO.out; rw [List.length_append] at ho; exact Ev.next HV.out HZ.out HBo.out ho⟩⟩, ?_⟩
        have := HLt.out
        simp [intOf]
        omega
      · have hp0 : i % 2 = 0 := by omega
        rw [hp0] at hone
        have hc : chE d i = ⟨(d : Int) * (i : Int), 0, b0⟩ := by unfold chE bitE; rw [if_neg hp, Int.natCast_mul]
        have HCe := Lib.hid hc
        clear hc hp hp0
        go_wp2_with (first | ((with_reducible refine gate_builtin (b := .append) (xs := #[.tmp 31, .tmp 37]) rfl ?_); at_builtin; refine Kd.R_append k59 (w0 := wr) W.heap.size rfl (.tmp 31) (.tmp 37) 24 59 (.agg #[(.int .i64 0), (.int .i64 0), (.string ⟨#[]⟩)]) 32 rfl Tryd.underlying24 info59 rfl (by decide) (by decide) (.slice A l.length cv) l (⟨(d : Int) * (i : Int), 0, b0⟩ : S59) [.int .i64 ((d : Int) * (i : Int)), .int .i64 0, .string b0] (fun _ => True) (fun _ => False) rfl rfl ?aP (fun _ hk => hk.elim) (fun _ _ => trivial) ?aO ?aB ?aS ?aL ?_; (case aP => exact k59_mkM _ _ _ ⟨(d : Int) * (i : Int), 0, b0⟩); (case aO => exact HV.out.r); (case aB => exact Below.refl _ _); (case aS => exact HV.out.s); (case aL => have := HLl.out; have := HLt.out; omega); intro v1 w9 ho hb hg hat; obtain ⟨A9, c9, he9⟩ := Kd.R_slice ho; subst he9; have HO := Lib.hid ho; have HBo := Lib.hid hb; have k3' := (hb.cell (p := ⟨w.heap.size + 1 + 1 + 1, 3, none⟩) HZl.out).trans k3; have f3' := (hb.frozen (p := ⟨w.heap.size + 1 + 1 + 1, 3, none⟩) HZl.out).trans f3; have hz9 := Nat.lt_of_lt_of_le HZl.out (Nat.le_trans HV.out.s hb.size); clear ho hb hg hat))
        refine ⟨⟨i + 1, by simp, HLt.out, Lib.hid ⟨_, by rw [HSu.out, HCe.out]; have ho := HO.out; rw [List.length_append] at ho; exact Ev.next HV.out HZ.out HBo.out ho⟩⟩, ?_⟩
        have := HLt.out
        simp [intOf]
        omega
    · obtain rfl : i = n := by omega
      have hr := HV.out.r
      obtain ⟨g, cap, hA, hg0, hg1, -⟩ := Kd.R_form hr (by rw [liE_length]; omega)
      cases hA
      obtain ⟨-, hnc, hC⟩ := Kd.R_reads' hr
      have hbw : Below w.heap.size w wr := HB.out.trans (HV.out.b.mono (by omega))
      have hI : WIn wr (xE d i) (some ⟨w.heap.size, 0, none⟩) 1 (some ⟨w.heap.size + 1, 0, none⟩) 1 (some ⟨w.heap.size + 1 + 1, 0, none⟩) 1 (some ⟨g, 0, none⟩) cv := by
        have c0 := (HV.out.b.cell (p := ⟨w.heap.size, 0, none⟩) (by show w.heap.size < _; omega)).trans HK.out.1
        have c1 := (HV.out.b.cell (p := ⟨w.heap.size + 1, 0, none⟩) (by show w.heap.size + 1 < _; omega)).trans HK.out.2.1
        have c2 := (HV.out.b.cell (p := ⟨w.heap.size + 1 + 1, 0, none⟩) (by show w.heap.size + 1 + 1 < _; omega)).trans HK.out.2.2
        refine ⟨C_str1 c0, C_int1 c1, C_str1 c2, hC, by show 1 ≤ 1; decide, by show 1 ≤ 1; decide, by show 1 ≤ 1; decide, hnc, Or.inr ⟨_, _, rfl⟩, Or.inr ⟨_, _, rfl⟩, Or.inr ⟨_, _, rfl⟩, Or.inr ⟨_, _, rfl⟩, ?_, ?_, ?_, ?_⟩
        · show ∀ s ∈ [bA], s.size ≤ 9223372036854775807
          decide
        · show ∀ s ∈ [bX], s.size ≤ 9223372036854775807
          decide
        · intro c hc
          obtain ⟨j, -, rfl⟩ := List.mem_map.1 (show c ∈ (List.range i).map (chE d) from hc)
          show (bitE j).size ≤ _
          rw [(bit_vOk j).2]
          decide
        · show (liE d i).length * 32 ≤ _
          rw [liE_length]
          omega
      have HI := Lib.hid hI
      have HW := Lib.hid hbw
      have k0 := HV.out.k0
      have k1 := HV.out.k1
      have k2 := HV.out.k2
      have hmul : d * i ≤ 65536 * 65 := Nat.mul_le_mul hd2 hn2
      have hmi : (d : Int) * (i : Int) ≤ 4259840 := by rw [← Int.natCast_mul]; omega
      have hmz : 0 ≤ (d : Int) * (i : Int) := by rw [← Int.natCast_mul]; omega
      have HMay := Lib.hid (may_E d i hd1 hd2 hn2)
      clear hI hbw hr hC hnc hg0 hg1 hmul hi hlt
      go_wp2_with fail
      refine (of_good (xE d i) (some ⟨w.heap.size, 0, none⟩) 1 (some ⟨w.heap.size + 1, 0, none⟩) 1 (some ⟨w.heap.size + 1 + 1, 0, none⟩) 1 (some ⟨g, 0, none⟩) cv 0 ((d : Int) * (i : Int)) wr HI.out ((may_iff _).2 HMay.out) (by decide) (by show (0 : Int) < 1; decide) hmz (by omega)).mono ?_
      rintro e w5 ⟨c, r, m, s, a, b, rfl, hb, hO⟩
      rw [← Int.natCast_mul] at hO
      obtain ⟨rfl, rfl, rfl, rfl, rfl, hquo⟩ := of_E d i hd1 hd2 hn1 hn2 hO
      have HW5 := Lib.hid (HW.out.trans (hb.mono HW.out.size))
      have hrate : ∀ W, (binOp .quo 42 (.float .f64 4607182418800017408) (.float .f64 (floatOfInt .f64 (d : Int)))).run Tryd.prog W = .ok (.float .f64 r) W := fun W => run_float_arith W .quo 42 .f64 _ _ _ hquo
      have hrn : nanB r = false := div_not_nan hquo
      have he1 : (FloatKind.f64.format.order r r == some .eq) = true := by rw [fmt64, order_eq, eqB_self, hrn]; rfl
      have he2 : (FloatKind.f64.format.order (floatOfInt .f64 (d : Int)) (floatOfInt .f64 (d : Int)) == some .eq) = true := by
        have hp : Pos (foi (d : Int)) := foi_pos (by omega)
        have hn : nanB (floatOfInt .f64 (d : Int)) = false := hp.ky.2
        rw [fmt64, order_eq, eqB_self, hn]
        rfl
      have he3 : (FloatKind.f64.format.order 0 0 == some .eq) = true := by
        have hn : nanB 0 = false := by kernel_rfl
        rw [fmt64, order_eq, eqB_self, hn]
        rfl
      clear hb hO hquo hrn
      rw [show foi (d : Int) = floatOfInt .f64 (d : Int) from rfl]
      go_upto_region 11 with fail
      obtain ⟨W6, hW6⟩ : ∃ W, w5.alloc (.cells #[.int .i64 i, .float .f64 r, .float .f64 (floatOfInt .f64 (d : Int)), .float .f64 0, .float .f64 (floatOfInt .f64 (d : Int)), .float .f64 (floatOfInt .f64 (d : Int))] 44) = W := ⟨_, rfl⟩
      rw [hW6]
      obtain ⟨hs6, hb6⟩ := sx_alloc w5 i r (floatOfInt .f64 (d : Int)) 0 (floatOfInt .f64 (d : Int)) (floatOfInt .f64 (d : Int)) 44 hW6
      have HW6 := Lib.hid (HW5.out.trans (hb6.mono HW5.out.size))
      obtain ⟨p0, p1, p2, p3, p4, p5, -, -, -, -, -, -, hsz⟩ := hs6
      clear hW6 hb6
      go_wp2_with fail
      refine (awakeS_any _).mono ?_
      rintro e w9 ⟨rfl, hb⟩
      have HB9 := Lib.hid (HW6.out.trans (hb.mono HW6.out.size))
      clear hb
      go_wp2_with fail
      go_ret
      exact ⟨rfl, HB9.out⟩
end Go.Proofs.YtcbkgammlfjjoaaDoor
