/- The small functions on floats, walked. -/
import Derived.Test.YtcbkgammlfjjoaaDoorFlB
import Derived.Test.YtcbkgammlfjjoaaDoorWv3
import Derived.WalkKit
import Derived.WalkLawsBesides
import Derived.Lib.Hide
namespace Go.Proofs.YtcbkgammlfjjoaaDoor
set_option linter.unusedVariables false
set_option linter.unusedSimpArgs false
open Go.RowKit
theorem fmt64 : FloatKind.f64.format = Ieee.double := rfl
theorem none_any (a : Nat) (w : World) : Calls Tryd.prog 37 #[.float .f64 a] w fun e w' => e = .returned (.bool (nanB a)) ∧ w = w' := by
  have h : (FloatKind.f64.format.order a a != some .eq) = nanB a := by rw [fmt64, order_ne, eqB_self, Bool.not_not]
  go_enter Tryd.func37, Tryd.ntmps37
  go_wp2
  go_ret
  exact ⟨rfl, rfl⟩
theorem isNaN_any (a : Nat) (w : World) : Calls Tryd.prog 58 #[.float .f64 a] w fun e w' => e = .returned (.bool (nanB a)) ∧ w = w' := by
  have h : (FloatKind.f64.format.order a a != some .eq) = nanB a := by rw [fmt64, order_ne, eqB_self, Bool.not_not]
  go_enter Tryd.func58, Tryd.ntmps58
  go_wp2
  go_ret
  exact ⟨rfl, rfl⟩
theorem isNaN2_any (a : Nat) (w : World) : Calls Tryd.prog 74 #[.float .f64 a] w fun e w' => e = .returned (.bool (nanB a)) ∧ w = w' := by
  have h : (FloatKind.f64.format.order a a != some .eq) = nanB a := by rw [fmt64, order_ne, eqB_self, Bool.not_not]
  go_enter Tryd.func74, Tryd.ntmps74
  go_wp2
  go_ret
  exact ⟨rfl, rfl⟩
/-- place, plainly -/
def placeF (a : Nat) : Int := if nanB a then 1 else 0
theorem place_any (a : Nat) (w : World) : Calls Tryd.prog 57 #[.float .f64 a] w fun e w' => e = .returned (.int .i64 (placeF a)) ∧ w = w' := by
  unfold placeF
  cases hn : nanB a
  all_goals
    have hc := isNaN_any a w
    rw [hn] at hc
    have HC := Lib.hid hc
    clear hc hn
    go_enter Tryd.func57, Tryd.ntmps57
    go_wp2_with (go_at_call 58; refine HC.out.mono ?_; rintro e w' ⟨rfl, rfl⟩)
    go_ret
    exact ⟨rfl, rfl⟩
theorem run76 (a : Nat) (w : World) : (callFunc 76 #[.float .f64 a]).run Tryd.prog w = .ok (.value (.int .u64 a)) w := by
  rw [run_callFunc_extern Tryd.func76 (by kernel_rfl) (by kernel_rfl) (by kernel_rfl) (e := Extern.MathFloatBits.float64bits) (by kernel_rfl)]; rfl
theorem run72 (n : Int) (w : World) : (callFunc 72 #[.int .u64 n]).run Tryd.prog w = .ok (.value (.float .f64 n.toNat)) w := by
  rw [run_callFunc_extern Tryd.func72 (by kernel_rfl) (by kernel_rfl) (by kernel_rfl) (e := Extern.MathFloatBits.float64frombits) (by kernel_rfl)]; rfl
def signBit (a : Nat) : Bool := decide (9223372036854775808 ≤ a)
theorem signbit_any (a : Nat) (w : World) (ha : a < 18446744073709551616) : Calls Tryd.prog 75 #[.float .f64 a] w fun e w' => e = .returned (.bool (signBit a)) ∧ w = w' := by
  have hd := run76 a
  have e : decide (wrap64 (a : Int) < 0) = signBit a := by
    unfold signBit wrap64
    rw [decide_eq_decide]
    omega
  go_enter Tryd.func75, Tryd.ntmps75
  go_wp2
  go_ret
  exact ⟨by rw [← e]; rfl, rfl⟩
theorem andNot_top (a : Nat) (ha : a < 18446744073709551616) : bits .andNot .u64 (a : Int) 9223372036854775808 = ((a % 9223372036854775808 : Nat) : Int) := by
  have e : ∀ x : BitVec 64, (x &&& ~~~(9223372036854775808#64)).toNat = x.toNat % 9223372036854775808 := by
    intro x
    rw [BitVec.toNat_and, show (~~~(9223372036854775808#64)).toNat = 2 ^ 63 - 1 from by decide, Nat.and_two_pow_sub_one_eq_mod]
  show IntKind.u64.wrap ((BitVec.ofInt 64 (a : Int) &&& ~~~(BitVec.ofInt 64 9223372036854775808)).toNat : Int) = _
  rw [show BitVec.ofInt 64 9223372036854775808 = 9223372036854775808#64 from by decide, e, BitVec.ofInt_natCast, BitVec.toNat_ofNat, Nat.mod_eq_of_lt ha]
  unfold IntKind.wrap IntKind.bits IntKind.signed
  simp
  omega
theorem abs_any (a : Nat) (w : World) (ha : a < 18446744073709551616) : Calls Tryd.prog 63 #[.float .f64 a] w fun e w' => e = .returned (.float .f64 (a % 9223372036854775808)) ∧ w = w' := by
  have hd := run76 a
  have hd2 := run72
  have e := andNot_top a ha
  go_enter Tryd.func63, Tryd.ntmps63
  go_wp2
  go_ret
  exact ⟨by simp, rfl⟩
theorem infR_any (b : Bool) (w : World) : Calls Tryd.prog 54 #[.bool b] w fun e w' => e = .returned (.float .f64 (if b then 18442240474082181120 else 9218868437227405312)) ∧ w = w' := by
  have h1 := fun w => run_float_arith (P := Tryd.prog) w .quo 42 .f64 13830554455654793216 0 18442240474082181120 (by kernel_rfl)
  have h2 := fun w => run_float_arith (P := Tryd.prog) w .quo 42 .f64 4607182418800017408 0 9218868437227405312 (by kernel_rfl)
  cases b
  all_goals
    go_enter Tryd.func54, Tryd.ntmps54
    go_wp2
    go_ret
    exact ⟨rfl, rfl⟩
theorem infM_any (n : Int) (w : World) : Calls Tryd.prog 53 #[.int .i64 n] w fun e w' => e = .returned (.float .f64 (if 0 ≤ n then 9218868437227405312 else 18442240474082181120)) ∧ w = w' := by
  have hd2 := run72
  by_cases h : 0 ≤ n
  · rw [if_pos h]
    go_enter Tryd.func53, Tryd.ntmps53
    go_wp2
    go_ret
    exact ⟨rfl, rfl⟩
  · rw [if_neg h]
    go_enter Tryd.func53, Tryd.ntmps53
    go_wp2
    go_ret
    exact ⟨rfl, rfl⟩
/-- minus, plainly -/
def minusF (a : Nat) : Bool := !nanB a && signBit a
theorem minus_any (a : Nat) (w : World) (ha : a < 18446744073709551616) : Calls Tryd.prog 55 #[.float .f64 a] w fun e w' => e = .returned (.bool (minusF a)) ∧ w = w' := by
  have k0 : ky 0 = 0 := by unfold ky; kernel_rfl
  have n0 : nanB 0 = false := by kernel_rfl
  have h1 : (FloatKind.f64.format.order a 0 == some .lt) = ltB a 0 := by rw [fmt64, order_lt]
  have h2 : (FloatKind.f64.format.order a 0 == some .eq) = eqB a 0 := by rw [fmt64, order_eq]
  have hs := ky_sign ha
  unfold ltB at h1
  unfold eqB at h2
  rw [n0, k0] at h1 h2
  unfold minusF signBit
  cases hn : nanB a with
  | true =>
    rw [hn] at h1 h2
    simp only [Bool.not_true, Bool.false_and] at h1 h2 ⊢
    clear hs k0 n0 hn
    go_enter Tryd.func55, Tryd.ntmps55
    go_wp2
    go_ret
    exact ⟨rfl, rfl⟩
  | false =>
    rw [hn] at h1 h2
    simp only [Bool.not_false, Bool.true_and] at h1 h2 ⊢
    have hs := hs hn
    by_cases hlt : ky a < 0
    · have e : decide (9223372036854775808 ≤ a) = true := by
        rw [decide_eq_true_eq]
        rcases Nat.lt_or_ge a 9223372036854775808 with h | h
        · have := hs.2 h; omega
        · exact h
      rw [e]
      rw [decide_eq_true hlt] at h1
      clear h2 hs hlt k0 n0 hn e
      go_enter Tryd.func55, Tryd.ntmps55
      go_wp2
      go_ret
      exact ⟨rfl, rfl⟩
    · rw [decide_eq_false hlt] at h1
      by_cases he : ky a = 0
      · rw [decide_eq_true he] at h2
        rcases ky_zero ha hn he with rfl | rfl
        · have hq := fun w => run_float_arith (P := Tryd.prog) w .quo 42 .f64 4607182418800017408 0 9218868437227405312 (by kernel_rfl)
          have hl : (FloatKind.f64.format.order 9218868437227405312 0 == some .lt) = false := by kernel_rfl
          have e : decide (9223372036854775808 ≤ 0) = false := rfl
          rw [e]
          clear hs hlt k0 n0 hn e he
          go_enter Tryd.func55, Tryd.ntmps55
          go_wp2
          go_ret
          exact ⟨rfl, rfl⟩
        · have hq := fun w => run_float_arith (P := Tryd.prog) w .quo 42 .f64 4607182418800017408 9223372036854775808 18442240474082181120 (by kernel_rfl)
          have hl : (FloatKind.f64.format.order 18442240474082181120 0 == some .lt) = true := by kernel_rfl
          have e : decide (9223372036854775808 ≤ 9223372036854775808) = true := rfl
          rw [e]
          clear hs hlt k0 n0 hn e he
          go_enter Tryd.func55, Tryd.ntmps55
          go_wp2
          go_ret
          exact ⟨rfl, rfl⟩
      · rw [decide_eq_false he] at h2
        have e : decide (9223372036854775808 ≤ a) = false := by
          rw [decide_eq_false_iff_not]
          intro h
          have := hs.1 h
          omega
        rw [e]
        clear hs hlt k0 n0 hn e he
        go_enter Tryd.func55, Tryd.ntmps55
        go_wp2
        go_ret
        exact ⟨rfl, rfl⟩
/-- same, plainly -/
def sameF (a b : Nat) : Bool := if nanB a || nanB b then nanB a && nanB b else decide (ky a = ky b) && (minusF a == minusF b)
theorem same_any (a b : Nat) (w : World) (ha : a < 18446744073709551616) (hb : b < 18446744073709551616) : Calls Tryd.prog 29 #[.float .f64 a, .float .f64 b] w fun e w' => e = .returned (.bool (sameF a b)) ∧ w = w' := by
  have h2 : (FloatKind.f64.format.order a b == some .eq) = eqB a b := by rw [fmt64, order_eq]
  have na := none_any a
  have nb := none_any b
  have ma := fun w => minus_any a w ha
  have mb := fun w => minus_any b w hb
  unfold eqB at h2
  unfold sameF
  generalize minusF a = x at ma
  generalize minusF b = y at mb
  generalize nanB a = p at na h2
  generalize nanB b = q at nb h2
  have NA := Lib.hid na
  have NB := Lib.hid nb
  have MA := Lib.hid ma
  have MB := Lib.hid mb
  clear na nb ma mb ha hb
  cases p <;> cases q
  · simp only [Bool.not_false, Bool.true_and, Bool.or_self, Bool.false_eq_true, if_false] at h2 ⊢
    generalize decide (ky a = ky b) = z at h2
    cases z <;> cases x <;> cases y
    all_goals
      go_enter Tryd.func29, Tryd.ntmps29
      go_wp2_with (first | (go_at_call 37; (with_reducible first | refine (NA.out _).mono ?_ | refine (NB.out _).mono ?_); rintro e w' ⟨rfl, rfl⟩) | (go_at_call 55; (with_reducible first | refine (MA.out _).mono ?_ | refine (MB.out _).mono ?_); rintro e w' ⟨rfl, rfl⟩))
      go_ret
      exact ⟨rfl, rfl⟩
  all_goals
    clear h2
    go_enter Tryd.func29, Tryd.ntmps29
    go_wp2_with (first | (go_at_call 37; (with_reducible first | refine (NA.out _).mono ?_ | refine (NB.out _).mono ?_); rintro e w' ⟨rfl, rfl⟩) | (go_at_call 55; (with_reducible first | refine (MA.out _).mono ?_ | refine (MB.out _).mono ?_); rintro e w' ⟨rfl, rfl⟩))
    go_ret
    exact ⟨rfl, rfl⟩
end Go.Proofs.YtcbkgammlfjjoaaDoor
