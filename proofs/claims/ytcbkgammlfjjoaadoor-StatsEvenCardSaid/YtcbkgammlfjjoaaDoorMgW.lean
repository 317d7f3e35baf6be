/- The small functions on floats, walked. Ratio, Compare, sign, Order, walked. Or, Order, IsInf, Mills, walked. IsInf, Mills, walked. The document's Mills, mills, floated, walked. floated, walked. -/
import Derived.Test.YtcbkgammlfjjoaaDoorMgF
import Derived.Test.YtcbkgammlfjjoaaDoorWv3
import Derived.WalkKit
import Derived.WalkLawsBesides
import Derived.Lib.Hide
import Derived.Test.YtcbkgammlfjjoaaDoorMgL
namespace Go.Proofs.YtcbkgammlfjjoaaDoor
set_option linter.unusedVariables false
set_option linter.unusedSimpArgs false
open Go.RowKit
theorem fmt64 : FloatKind.f64.format = Ieee.double := rfl
theorem none_any (a : Nat) (w : World) : Calls Tryd.prog 37 #[.float .f64 a] w fun e w' => e = .returned (.bool (nanB a)) ∧ w = w' := by
  have h : (FloatKind.f64.format.order a a != some .eq) = nanB a := by rw [fmt64, order_ne, eqB_self, Bool.not_not]
  go_enter Tryd.func37, Tryd.ntmps37
  go_wp2
  go_ret
  exact ⟨rfl, rfl⟩
theorem isNaN_any (a : Nat) (w : World) : Calls Tryd.prog 58 #[.float .f64 a] w fun e w' => e = .returned (.bool (nanB a)) ∧ w = w' := by
  have h : (FloatKind.f64.format.order a a != some .eq) = nanB a := by rw [fmt64, order_ne, eqB_self, Bool.not_not]
  go_enter Tryd.func58, Tryd.ntmps58
  go_wp2
  go_ret
  exact ⟨rfl, rfl⟩
theorem isNaN2_any (a : Nat) (w : World) : Calls Tryd.prog 74 #[.float .f64 a] w fun e w' => e = .returned (.bool (nanB a)) ∧ w = w' := by
  have h : (FloatKind.f64.format.order a a != some .eq) = nanB a := by rw [fmt64, order_ne, eqB_self, Bool.not_not]
  go_enter Tryd.func74, Tryd.ntmps74
  go_wp2
  go_ret
  exact ⟨rfl, rfl⟩
/-- place, plainly -/
def placeF (a : Nat) : Int := if nanB a then 1 else 0
theorem place_any (a : Nat) (w : World) : Calls Tryd.prog 57 #[.float .f64 a] w fun e w' => e = .returned (.int .i64 (placeF a)) ∧ w = w' := by
  unfold placeF
  cases hn : nanB a
  all_goals
    have hc := isNaN_any a w
    rw [hn] at hc
    have HC := Lib.hid hc
    clear hc hn
    go_enter Tryd.func57, Tryd.ntmps57
    go_wp2_with (go_at_call 58; refine HC.out.mono ?_; rintro e w' ⟨rfl, rfl⟩)
    go_ret
    exact ⟨rfl, rfl⟩
theorem run76 (a : Nat) (w : World) : (callFunc 76 #[.float .f64 a]).run Tryd.prog w = .ok (.value (.int .u64 a)) w := by
  rw [run_callFunc_extern Tryd.func76 (by kernel_rfl) (by kernel_rfl) (by kernel_rfl) (e := Extern.MathFloatBits.float64bits) (by kernel_rfl)]; rfl
theorem run72 (n : Int) (w : World) : (callFunc 72 #[.int .u64 n]).run Tryd.prog w = .ok (.value (.float .f64 n.toNat)) w := by
  rw [run_callFunc_extern Tryd.func72 (by kernel_rfl) (by kernel_rfl) (by kernel_rfl) (e := Extern.MathFloatBits.float64frombits) (by kernel_rfl)]; rfl
def signBit (a : Nat) : Bool := decide (9223372036854775808 ≤ a)
theorem signbit_any (a : Nat) (w : World) (ha : a < 18446744073709551616) : Calls Tryd.prog 75 #[.float .f64 a] w fun e w' => e = .returned (.bool (signBit a)) ∧ w = w' := by
  have hd := run76 a
  have e : decide (wrap64 (a : Int) < 0) = signBit a := by
    unfold signBit wrap64
    rw [decide_eq_decide]
    omega
  go_enter Tryd.func75, Tryd.ntmps75
  go_wp2
  go_ret
  exact ⟨by rw [← e]; rfl, rfl⟩
theorem andNot_top (a : Nat) (ha : a < 18446744073709551616) : bits .andNot .u64 (a : Int) 9223372036854775808 = ((a % 9223372036854775808 : Nat) : Int) := by
  have e : ∀ x : BitVec 64, (x &&& ~~~(9223372036854775808#64)).toNat = x.toNat % 9223372036854775808 := by
    intro x
    rw [BitVec.toNat_and, show (~~~(9223372036854775808#64)).toNat = 2 ^ 63 - 1 from by decide, Nat.and_two_pow_sub_one_eq_mod]
  show IntKind.u64.wrap ((BitVec.ofInt 64 (a : Int) &&& ~~~(BitVec.ofInt 64 9223372036854775808)).toNat : Int) = _
  rw [show BitVec.ofInt 64 9223372036854775808 = 9223372036854775808#64 from by decide, e, BitVec.ofInt_natCast, BitVec.toNat_ofNat, Nat.mod_eq_of_lt ha]
  unfold IntKind.wrap IntKind.bits IntKind.signed
  simp
  omega
theorem abs_any (a : Nat) (w : World) (ha : a < 18446744073709551616) : Calls Tryd.prog 63 #[.float .f64 a] w fun e w' => e = .returned (.float .f64 (a % 9223372036854775808)) ∧ w = w' := by
  have hd := run76 a
  have hd2 := run72
  have e := andNot_top a ha
  go_enter Tryd.func63, Tryd.ntmps63
  go_wp2
  go_ret
  exact ⟨by simp, rfl⟩
theorem infR_any (b : Bool) (w : World) : Calls Tryd.prog 54 #[.bool b] w fun e w' => e = .returned (.float .f64 (if b then 18442240474082181120 else 9218868437227405312)) ∧ w = w' := by
  have h1 := fun w => run_float_arith (P := Tryd.prog) w .quo 42 .f64 13830554455654793216 0 18442240474082181120 (by kernel_rfl)
  have h2 := fun w => run_float_arith (P := Tryd.prog) w .quo 42 .f64 4607182418800017408 0 9218868437227405312 (by kernel_rfl)
  cases b
  all_goals
    go_enter Tryd.func54, Tryd.ntmps54
    go_wp2
    go_ret
    exact ⟨rfl, rfl⟩
theorem infM_any (n : Int) (w : World) : Calls Tryd.prog 53 #[.int .i64 n] w fun e w' => e = .returned (.float .f64 (if 0 ≤ n then 9218868437227405312 else 18442240474082181120)) ∧ w = w' := by
  have hd2 := run72
  by_cases h : 0 ≤ n
  · rw [if_pos h]
    go_enter Tryd.func53, Tryd.ntmps53
    go_wp2
    go_ret
    exact ⟨rfl, rfl⟩
  · rw [if_neg h]
    go_enter Tryd.func53, Tryd.ntmps53
    go_wp2
    go_ret
    exact ⟨rfl, rfl⟩
/-- minus, plainly -/
def minusF (a : Nat) : Bool := !nanB a && signBit a
theorem minus_any (a : Nat) (w : World) (ha : a < 18446744073709551616) : Calls Tryd.prog 55 #[.float .f64 a] w fun e w' => e = .returned (.bool (minusF a)) ∧ w = w' := by
  have k0 : ky 0 = 0 := by unfold ky; kernel_rfl
  have n0 : nanB 0 = false := by kernel_rfl
  have h1 : (FloatKind.f64.format.order a 0 == some .lt) = ltB a 0 := by rw [fmt64, order_lt]
  have h2 : (FloatKind.f64.format.order a 0 == some .eq) = eqB a 0 := by rw [fmt64, order_eq]
  have hs := ky_sign ha
  unfold ltB at h1
  unfold eqB at h2
  rw [n0, k0] at h1 h2
  unfold minusF signBit
  cases hn : nanB a with
  | true =>
    rw [hn] at h1 h2
    simp only [Bool.not_true, Bool.false_and] at h1 h2 ⊢
    clear hs k0 n0 hn
    go_enter Tryd.func55, Tryd.ntmps55
    go_wp2
    go_ret
    exact ⟨rfl, rfl⟩
  | false =>
    rw [hn] at h1 h2
    simp only [Bool.not_false, Bool.true_and] at h1 h2 ⊢
    have hs := hs hn
    by_cases hlt : ky a < 0
    · have e : decide (9223372036854775808 ≤ a) = true := by
        rw [decide_eq_true_eq]
        rcases Nat.lt_or_ge a 9223372036854775808 with h | h
        · have := hs.2 h; omega
        · exact h
      rw [e]
      rw [decide_eq_true hlt] at h1
      clear h2 hs hlt k0 n0 hn e
      go_enter Tryd.func55, Tryd.ntmps55
      go_wp2
      go_ret
      exact ⟨rfl, rfl⟩
    · rw [decide_eq_false hlt] at h1
      by_cases he : ky a = 0
      · rw [decide_eq_true he] at h2
        rcases ky_zero ha hn he with rfl | rfl
        · have hq := fun w => run_float_arith (P := Tryd.prog) w .quo 42 .f64 4607182418800017408 0 9218868437227405312 (by kernel_rfl)
          have hl : (FloatKind.f64.format.order 9218868437227405312 0 == some .lt) = false := by kernel_rfl
          have e : decide (9223372036854775808 ≤ 0) = false := rfl
          rw [e]
          clear hs hlt k0 n0 hn e he
          go_enter Tryd.func55, Tryd.ntmps55
          go_wp2
          go_ret
          exact ⟨rfl, rfl⟩
        · have hq := fun w => run_float_arith (P := Tryd.prog) w .quo 42 .f64 4607182418800017408 9223372036854775808 18442240474082181120 (by kernel_rfl)
          have hl : (FloatKind.f64.format.order 18442240474082181120 0 == some .lt) = true := by kernel_rfl
          have e : decide (9223372036854775808 ≤ 9223372036854775808) = true := rfl
          rw [e]
          clear hs hlt k0 n0 hn e he
          go_enter Tryd.func55, Tryd.ntmps55
          go_wp2
          go_ret
          exact ⟨rfl, rfl⟩
      · rw [decide_eq_false he] at h2
        have e : decide (9223372036854775808 ≤ a) = false := by
          rw [decide_eq_false_iff_not]
          intro h
          have := hs.1 h
          omega
        rw [e]
        clear hs hlt k0 n0 hn e he
        go_enter Tryd.func55, Tryd.ntmps55
        go_wp2
        go_ret
        exact ⟨rfl, rfl⟩
/-- same, plainly -/
def sameF (a b : Nat) : Bool := if nanB a || nanB b then nanB a && nanB b else decide (ky a = ky b) && (minusF a == minusF b)
theorem same_any (a b : Nat) (w : World) (ha : a < 18446744073709551616) (hb : b < 18446744073709551616) : Calls Tryd.prog 29 #[.float .f64 a, .float .f64 b] w fun e w' => e = .returned (.bool (sameF a b)) ∧ w = w' := by
  have h2 : (FloatKind.f64.format.order a b == some .eq) = eqB a b := by rw [fmt64, order_eq]
  have na := none_any a
  have nb := none_any b
  have ma := fun w => minus_any a w ha
  have mb := fun w => minus_any b w hb
  unfold eqB at h2
  unfold sameF
  generalize minusF a = x at ma
  generalize minusF b = y at mb
  generalize nanB a = p at na h2
  generalize nanB b = q at nb h2
  have NA := Lib.hid na
  have NB := Lib.hid nb
  have MA := Lib.hid ma
  have MB := Lib.hid mb
  clear na nb ma mb ha hb
  cases p <;> cases q
  · simp only [Bool.not_false, Bool.true_and, Bool.or_self, Bool.false_eq_true, if_false] at h2 ⊢
    generalize decide (ky a = ky b) = z at h2
    cases z <;> cases x <;> cases y
    all_goals
      go_enter Tryd.func29, Tryd.ntmps29
      go_wp2_with (first | (go_at_call 37; (with_reducible first | refine (NA.out _).mono ?_ | refine (NB.out _).mono ?_); rintro e w' ⟨rfl, rfl⟩) | (go_at_call 55; (with_reducible first | refine (MA.out _).mono ?_ | refine (MB.out _).mono ?_); rintro e w' ⟨rfl, rfl⟩))
      go_ret
      exact ⟨rfl, rfl⟩
  all_goals
    clear h2
    go_enter Tryd.func29, Tryd.ntmps29
    go_wp2_with (first | (go_at_call 37; (with_reducible first | refine (NA.out _).mono ?_ | refine (NB.out _).mono ?_); rintro e w' ⟨rfl, rfl⟩) | (go_at_call 55; (with_reducible first | refine (MA.out _).mono ?_ | refine (MB.out _).mono ?_); rintro e w' ⟨rfl, rfl⟩))
    go_ret
    exact ⟨rfl, rfl⟩
end Go.Proofs.YtcbkgammlfjjoaaDoor
namespace Go.Proofs.YtcbkgammlfjjoaaDoor
set_option linter.unusedVariables false
set_option linter.unusedSimpArgs false
open Go.RowKit Go.Proofs.YtcbkgammlfjjoaaDoorW.PrintWords Go.Proofs.YtcbkgammlfjjoaaDoorW.PrintLast Go.Proofs.YtcbkgammlfjjoaaDoorW.PrintMore

theorem nan_drawn (t : Nat) : nanB ((t % 2) * 2 ^ 63 + 0x7ff0000000000000 + 1 + (t / 2) % (2 ^ 52 - 1)) = true ∧ (t % 2) * 2 ^ 63 + 0x7ff0000000000000 + 1 + (t / 2) % (2 ^ 52 - 1) < 18446744073709551616 := by
  have h1 : t % 2 < 2 := Nat.mod_lt _ (by decide)
  have h2 : t / 2 % (2 ^ 52 - 1) < 4503599627370495 := Nat.mod_lt _ (by decide)
  generalize t % 2 = s at h1
  generalize t / 2 % (2 ^ 52 - 1) = r at h2
  refine ⟨?_, by omega⟩
  have hb : (s * 2 ^ 63 + 0x7ff0000000000000 + 1 + r) % 9223372036854775808 = 0x7ff0000000000001 + r := by omega
  generalize s * 2 ^ 63 + 0x7ff0000000000000 + 1 + r = b at hb
  unfold nanB Ieee.Format.read
  rw [dl, db, di, dsw]
  dsimp only
  rw [hb, if_neg (by omega), if_neg (by omega), if_neg (by omega)]
  rfl
/-- what a float operation may answer -/
def FR (op : BinOp) (x y r : Nat) : Prop := r < 18446744073709551616 ∧ (floatBits op .f64 x y = some r ∨ (floatBits op .f64 x y = none ∧ nanB r = true))
def isF (op : BinOp) : Bool := match op with | .add | .sub | .mul | .quo => true | _ => false
theorem run_fop {P : Program} {op : BinOp} (hop : isF op = true) (t : TypeId) (x y : Nat) (w : World) :
    ∃ r m, (binOp op t (.float .f64 x) (.float .f64 y)).run P w = .ok (.float .f64 r) (w.drewN m) ∧ FR op x y r := by
  cases h : floatBits op .f64 x y with
  | some r =>
    refine ⟨r, 0, run_float_arith w op t .f64 x y r h, ?_, Or.inl h⟩
    unfold floatBits at h
    split at h
    · exact Ieee.double.add_lt h
    · exact Ieee.double.sub_lt h
    · exact Ieee.double.mul_lt h
    · exact Ieee.double.div_lt h
    · cases h
  | none =>
    have hq := nan_drawn (w.tape w.drawn (.nanBits .f64 x y))
    refine ⟨_, 1, ?_, hq.2, Or.inr ⟨h, hq.1⟩⟩
    unfold floatBits at h
    cases op <;> simp only at h <;> first | (cases hop; done) | skip
    all_goals
      simp [binOp, Op.floatArith, h]
      rfl
def RatioP (a b : Nat) (w : World) (e : Ending) (w' : World) : Prop := ∃ r m, e = .returned (.float .f64 r) ∧ w' = w.drewN m ∧ FR .quo a b r
theorem ratio_any (a b : Nat) (w : World) : Calls Tryd.prog 31 #[.float .f64 a, .float .f64 b] w (RatioP a b w) := by
  obtain ⟨r, m, h, hr⟩ := run_fop (P := Tryd.prog) (op := .quo) rfl 42 a b w
  go_enter Tryd.func31, Tryd.ntmps31
  go_wp2
  go_ret
  exact ⟨r, m, rfl, rfl, hr⟩
theorem cmpInt_any (a b : Int) (w : World) : Calls Tryd.prog 56 #[.int .i64 a, .int .i64 b] w fun e w' => e = .returned (.int .i64 (cmpI a b)) ∧ w = w' := by
  unfold cmpI
  by_cases h1 : a < b
  · have hn : (a != a) = false := bne_self_eq_false _
    have hn2 : (b != b) = false := bne_self_eq_false _
    rw [if_pos h1]
    go_enter Tryd.func56, Tryd.ntmps56
    go_wp2
    go_ret
    exact ⟨rfl, rfl⟩
  · rw [if_neg h1]
    by_cases h2 : b < a
    · rw [if_pos h2]
      go_enter Tryd.func56, Tryd.ntmps56
      go_wp2
      go_ret
      exact ⟨rfl, rfl⟩
    · rw [if_neg h2]
      go_enter Tryd.func56, Tryd.ntmps56
      go_wp2
      go_ret
      exact ⟨rfl, rfl⟩
/-- how floats stand, plainly -/
def cmpF (a b : Nat) : Int := if nanB a then (if nanB b then 0 else -1) else if nanB b then 1 else if ky a < ky b then -1 else if ky b < ky a then 1 else 0
theorem cmpFloat_any (a b : Nat) (w : World) : Calls Tryd.prog 60 #[.float .f64 a, .float .f64 b] w fun e w' => e = .returned (.int .i64 (cmpF a b)) ∧ w = w' := by
  have h1 : (FloatKind.f64.format.order a b == some .lt) = ltB a b := by rw [fmt64, order_lt]
  have h2 : (FloatKind.f64.format.order a b == some .gt) = ltB b a := by rw [fmt64, order_gt]
  have na := isNaN2_any a
  have nb := isNaN2_any b
  unfold ltB at h1 h2
  unfold cmpF
  generalize nanB a = p at na h1 h2
  generalize nanB b = q at nb h1 h2
  have NA := Lib.hid na
  have NB := Lib.hid nb
  clear na nb
  cases p <;> cases q
  · simp only [Bool.not_false, Bool.true_and, Bool.false_eq_true, if_false] at h1 h2 ⊢
    by_cases l1 : ky a < ky b
    · rw [decide_eq_true l1] at h1
      rw [if_pos l1]
      clear h2 l1
      go_enter Tryd.func60, Tryd.ntmps60
      go_wp2_with (go_at_call 74; (with_reducible first | refine (NA.out _).mono ?_ | refine (NB.out _).mono ?_); rintro e w' ⟨rfl, rfl⟩)
      go_ret
      exact ⟨rfl, rfl⟩
    · rw [decide_eq_false l1] at h1
      rw [if_neg l1]
      by_cases l2 : ky b < ky a
      · rw [decide_eq_true l2] at h2
        rw [if_pos l2]
        clear l1 l2
        go_enter Tryd.func60, Tryd.ntmps60
        go_wp2_with (go_at_call 74; (with_reducible first | refine (NA.out _).mono ?_ | refine (NB.out _).mono ?_); rintro e w' ⟨rfl, rfl⟩)
        go_ret
        exact ⟨rfl, rfl⟩
      · rw [decide_eq_false l2] at h2
        rw [if_neg l2]
        clear l1 l2
        go_enter Tryd.func60, Tryd.ntmps60
        go_wp2_with (go_at_call 74; (with_reducible first | refine (NA.out _).mono ?_ | refine (NB.out _).mono ?_); rintro e w' ⟨rfl, rfl⟩)
        go_ret
        exact ⟨rfl, rfl⟩
  all_goals
    clear h1 h2
    go_enter Tryd.func60, Tryd.ntmps60
    go_wp2_with (go_at_call 74; (with_reducible first | refine (NA.out _).mono ?_ | refine (NB.out _).mono ?_); rintro e w' ⟨rfl, rfl⟩)
    go_ret
    exact ⟨rfl, rfl⟩
def signF (a : Nat) : Int := if minusF a then 0 else 1
theorem sign_any (a : Nat) (w : World) (ha : a < 18446744073709551616) : Calls Tryd.prog 61 #[.float .f64 a] w fun e w' => e = .returned (.int .i64 (signF a)) ∧ w = w' := by
  have na := isNaN_any a
  have sa := fun w => signbit_any a w ha
  unfold signF minusF
  generalize nanB a = p at na
  generalize signBit a = q at sa
  have NA := Lib.hid na
  have SA := Lib.hid sa
  clear na sa
  cases p <;> cases q
  all_goals
    go_enter Tryd.func61, Tryd.ntmps61
    go_wp2_with (first | (go_at_call 75; with_reducible refine (SA.out _).mono ?_; rintro e w' ⟨rfl, rfl⟩) | (go_at_call 58; with_reducible refine (NA.out _).mono ?_; rintro e w' ⟨rfl, rfl⟩))
    go_ret
    exact ⟨rfl, rfl⟩
/-- Order, plainly -/
def ordF (a b : Nat) : Int := if nanB a then (if nanB b then 0 else 1) else if nanB b then -1 else if ky a < ky b then -1 else if ky b < ky a then 1 else cmpI (signF a) (signF b)
theorem ordR_any (a b : Nat) (w : World) (ha : a < 18446744073709551616) (hb : b < 18446744073709551616) : Calls Tryd.prog 33 #[.float .f64 a, .float .f64 b] w fun e w' => e = .returned (.int .i64 (ordF a b)) ∧ w = w' := by
  have h1 : (FloatKind.f64.format.order a b == some .lt) = ltB a b := by rw [fmt64, order_lt]
  have h2 : (FloatKind.f64.format.order a b == some .gt) = ltB b a := by rw [fmt64, order_gt]
  have na := none_any a
  have nb := none_any b
  have ma := fun w => minus_any a w ha
  have mb := fun w => minus_any b w hb
  unfold ltB at h1 h2
  unfold ordF signF
  generalize minusF a = x at ma
  generalize minusF b = y at mb
  generalize nanB a = p at na h1 h2
  generalize nanB b = q at nb h1 h2
  have NA := Lib.hid na
  have NB := Lib.hid nb
  have MA := Lib.hid ma
  have MB := Lib.hid mb
  clear na nb ma mb ha hb
  cases p <;> cases q
  · simp only [Bool.not_false, Bool.true_and, Bool.false_eq_true, if_false] at h1 h2 ⊢
    by_cases l1 : ky a < ky b
    · rw [decide_eq_true l1] at h1
      rw [if_pos l1]
      clear h2 l1
      go_enter Tryd.func33, Tryd.ntmps33
      go_wp2_with (first | (go_at_call 37; (with_reducible first | refine (NA.out _).mono ?_ | refine (NB.out _).mono ?_); rintro e w' ⟨rfl, rfl⟩) | (go_at_call 55; (with_reducible first | refine (MA.out _).mono ?_ | refine (MB.out _).mono ?_); rintro e w' ⟨rfl, rfl⟩))
      go_ret
      exact ⟨rfl, rfl⟩
    · rw [decide_eq_false l1] at h1
      rw [if_neg l1]
      by_cases l2 : ky b < ky a
      · rw [decide_eq_true l2] at h2
        rw [if_pos l2]
        clear l1 l2
        go_enter Tryd.func33, Tryd.ntmps33
        go_wp2_with (first | (go_at_call 37; (with_reducible first | refine (NA.out _).mono ?_ | refine (NB.out _).mono ?_); rintro e w' ⟨rfl, rfl⟩) | (go_at_call 55; (with_reducible first | refine (MA.out _).mono ?_ | refine (MB.out _).mono ?_); rintro e w' ⟨rfl, rfl⟩))
        go_ret
        exact ⟨rfl, rfl⟩
      · rw [decide_eq_false l2] at h2
        rw [if_neg l2]
        clear l1 l2
        cases x <;> cases y
        all_goals
          go_enter Tryd.func33, Tryd.ntmps33
          go_wp2_with (first | (go_at_call 37; (with_reducible first | refine (NA.out _).mono ?_ | refine (NB.out _).mono ?_); rintro e w' ⟨rfl, rfl⟩) | (go_at_call 55; (with_reducible first | refine (MA.out _).mono ?_ | refine (MB.out _).mono ?_); rintro e w' ⟨rfl, rfl⟩))
          go_ret
          exact ⟨rfl, rfl⟩
  all_goals
    clear h1 h2
    go_enter Tryd.func33, Tryd.ntmps33
    go_wp2_with (first | (go_at_call 37; (with_reducible first | refine (NA.out _).mono ?_ | refine (NB.out _).mono ?_); rintro e w' ⟨rfl, rfl⟩) | (go_at_call 55; (with_reducible first | refine (MA.out _).mono ?_ | refine (MB.out _).mono ?_); rintro e w' ⟨rfl, rfl⟩))
    go_ret
    exact ⟨rfl, rfl⟩
end Go.Proofs.YtcbkgammlfjjoaaDoor
namespace Go.Proofs.YtcbkgammlfjjoaaDoor
set_option linter.unusedVariables false
set_option linter.unusedSimpArgs false
open Go.RowKit Go.Proofs.YtcbkgammlfjjoaaDoorW.PrintWords Go.Proofs.YtcbkgammlfjjoaaDoorW.PrintLast Go.Proofs.YtcbkgammlfjjoaaDoorW.PrintMore

def orI (x y : Int) : Int := if x = 0 then y else x
theorem or_any (x y : Int) (b : Nat) (w : World) (h0 : w.cell? ⟨b, 0, none⟩ = some (.int .i64 x)) (h1 : w.cell? ⟨b, 1, none⟩ = some (.int .i64 y)) :
    Calls Tryd.prog 59 #[.slice (some ⟨b, 0, none⟩) 2 2] w fun e w' => e = .returned (.int .i64 (orI x y)) ∧ w = w' := by
  obtain ⟨ans, hans⟩ : ∃ ans, orI x y = ans := ⟨_, rfl⟩
  rw [hans]
  have HA := Lib.hid hans
  clear hans
  go_enter Tryd.func59, Tryd.ntmps59
  go_wp2
  go_loop [8] (fun v8 => ∃ k : Nat, k ≤ 2 ∧ v8 = .int .i64 k ∧ Hid (1 ≤ k → x = 0) ∧ Hid (2 ≤ k → y = 0)) (fun v8 => 2 - (intOf v8).toNat)
  case atStart => exact ⟨0, by omega, rfl, Lib.hid (fun h => absurd h (by omega)), Lib.hid (fun h => absurd h (by omega))⟩
  case round =>
    obtain ⟨k, hk, rfl, HX, HY⟩ := hrel
    rcases (by omega : k = 0 ∨ k = 1 ∨ k = 2) with rfl | rfl | rfl
    · clear HX HY hk
      by_cases hz : x = 0
      · have hz' : (x != 0) = false := by simpa using hz
        have HZ := Lib.hid hz
        clear hz
        go_wp2
        go_round
        case rel => exact ⟨1, by omega, rfl, Lib.hid (fun _ => HZ.out), Lib.hid (fun h => absurd h (by omega))⟩
        case measure => simp [intOf]
      · have hz' : (x != 0) = true := by simpa using hz
        obtain rfl : ans = x := by rw [← HA.out, orI, if_neg hz]
        clear hz
        go_wp2
        go_ret
        exact ⟨rfl, rfl⟩
    · have hx := HX.out (by omega)
      clear HX HY hk
      by_cases hz : y = 0
      · have hz' : (y != 0) = false := by simpa using hz
        have HZ := Lib.hid hz
        have HX := Lib.hid hx
        clear hz hx
        go_wp2
        go_round
        case rel => exact ⟨2, by omega, rfl, Lib.hid (fun _ => HX.out), Lib.hid (fun _ => HZ.out)⟩
        case measure => simp [intOf]
      · have hz' : (y != 0) = true := by simpa using hz
        obtain rfl : ans = y := by rw [← HA.out, orI, if_pos hx]
        clear hz hx
        go_wp2
        go_ret
        exact ⟨rfl, rfl⟩
    · have hx := HX.out (by omega)
      have hy := HY.out (by omega)
      obtain rfl : ans = 0 := by rw [← HA.out, orI, if_pos hx, hy]
      clear HX HY hk hx hy HA
      go_wp2
      go_ret
      exact ⟨rfl, rfl⟩
theorem ordF_eq (a b : Nat) : ordF a b = if cmpI (placeF a) (placeF b) ≠ 0 ∨ nanB a = true then cmpI (placeF a) (placeF b) else orI (cmpF a b) (cmpI (signF a) (signF b)) := by
  unfold ordF placeF cmpF orI
  cases nanB a <;> cases nanB b <;> simp [cmpI]
  repeat' split
  all_goals first | rfl | omega
theorem order_any (a b : Nat) (w : World) (ha : a < 18446744073709551616) (hb : b < 18446744073709551616) : Calls Tryd.prog 32 #[.float .f64 a, .float .f64 b] w fun e w' => e = .returned (.int .i64 (ordF a b)) ∧ Below w.heap.size w w' := by
  rw [ordF_eq]
  have P0 := Lib.hid (place_any a)
  have P1 := Lib.hid (place_any b)
  have NA := Lib.hid (isNaN_any a)
  have CF := Lib.hid (cmpFloat_any a b)
  have SA := Lib.hid (fun w => sign_any a w ha)
  have SB := Lib.hid (fun w => sign_any b w hb)
  clear ha hb
  generalize placeF a = p0 at P0 ⊢
  generalize placeF b = p1 at P1 ⊢
  generalize nanB a = na at NA ⊢
  generalize cmpF a b = cf at CF ⊢
  generalize signF a = sa at SA ⊢
  generalize signF b = sb at SB ⊢
  have C0 := Lib.hid (cmpInt_any p0 p1)
  have C1 := Lib.hid (cmpInt_any sa sb)
  generalize cmpI p0 p1 = c at C0 ⊢
  generalize cmpI sa sb = d at C1 ⊢
  by_cases hc : c = 0
  · subst hc
    cases na
    · rw [if_neg (by simp)]
      go_enter Tryd.func32, Tryd.ntmps32
      go_wp2_with (first
        | (go_at_call 57; (with_reducible first | refine (P0.out _).mono ?_ | refine (P1.out _).mono ?_); rintro e w' ⟨rfl, rfl⟩)
        | (go_at_call 56; (with_reducible first | refine (C0.out _).mono ?_ | refine (C1.out _).mono ?_); rintro e w' ⟨rfl, rfl⟩)
        | (go_at_call 58; (with_reducible refine (NA.out _).mono ?_); rintro e w' ⟨rfl, rfl⟩)
        | (go_at_call 60; (with_reducible refine (CF.out _).mono ?_); rintro e w' ⟨rfl, rfl⟩)
        | (go_at_call 61; (with_reducible first | refine (SA.out _).mono ?_ | refine (SB.out _).mono ?_); rintro e w' ⟨rfl, rfl⟩)
        | (go_at_call 59; (with_reducible refine (or_any cf d _ _ ?c1 ?c2).mono ?_); rotate_left 2; rintro e w' ⟨rfl, rfl⟩))
      case c1 => simp [go_sem]
      case c2 => simp [go_sem]
      go_ret
      exact ⟨rfl, (Below.refl _ _).alloc (Nat.le_refl _) _⟩
    · rw [if_pos (by simp)]
      go_enter Tryd.func32, Tryd.ntmps32
      go_wp2_with (first
        | (go_at_call 57; (with_reducible first | refine (P0.out _).mono ?_ | refine (P1.out _).mono ?_); rintro e w' ⟨rfl, rfl⟩)
        | (go_at_call 56; (with_reducible first | refine (C0.out _).mono ?_ | refine (C1.out _).mono ?_); rintro e w' ⟨rfl, rfl⟩)
        | (go_at_call 58; (with_reducible refine (NA.out _).mono ?_); rintro e w' ⟨rfl, rfl⟩))
      go_ret
      exact ⟨rfl, Below.refl _ _⟩
  · rw [if_pos (Or.inl hc)]
    have hc' : (c != 0) = true := by simpa using hc
    go_enter Tryd.func32, Tryd.ntmps32
    go_wp2_with (first
      | (go_at_call 57; (with_reducible first | refine (P0.out _).mono ?_ | refine (P1.out _).mono ?_); rintro e w' ⟨rfl, rfl⟩)
      | (go_at_call 56; (with_reducible first | refine (C0.out _).mono ?_ | refine (C1.out _).mono ?_); rintro e w' ⟨rfl, rfl⟩)
      | (go_at_call 58; (with_reducible refine (NA.out _).mono ?_); rintro e w' ⟨rfl, rfl⟩))
    go_ret
    exact ⟨rfl, Below.refl _ _⟩
end Go.Proofs.YtcbkgammlfjjoaaDoor
namespace Go.Proofs.YtcbkgammlfjjoaaDoor
set_option linter.unusedVariables false
set_option linter.unusedSimpArgs false
open Go.RowKit Go.Proofs.YtcbkgammlfjjoaaDoorW.PrintWords Go.Proofs.YtcbkgammlfjjoaaDoorW.PrintLast Go.Proofs.YtcbkgammlfjjoaaDoorW.PrintMore

theorem isInf_above (x : Nat) (w : World) : Calls Tryd.prog 62 #[.float .f64 x, .int .i64 1] w fun e w' => e = .returned (.bool (ltB 9218868437227405311 x)) ∧ w = w' := by
  have h : (FloatKind.f64.format.order x 9218868437227405311 == some .gt) = ltB 9218868437227405311 x := by rw [fmt64, order_gt]
  go_enter Tryd.func62, Tryd.ntmps62
  go_wp2
  go_ret
  exact ⟨rfl, rfl⟩
theorem isInf_below (x : Nat) (w : World) (hx : x < 18446744073709551616) : Calls Tryd.prog 62 #[.float .f64 x, .int .i64 (-1)] w fun e w' => e = .returned (.bool (ltB 9218868437227405311 (negW x))) ∧ w = w' := by
  have h : (FloatKind.f64.format.order (negW x) 9218868437227405311 == some .gt) = ltB 9218868437227405311 (negW x) := by rw [fmt64, order_gt]
  have hneg : Op.unary .neg (.float .f64 x) = pure (.float .f64 (negW x)) := by rw [← neg_eq hx]; rfl
  go_enter Tryd.func62, Tryd.ntmps62
  go_wp2
  go_ret
  exact ⟨rfl, rfl⟩
/-- what a float may be -/
theorem float_ways (x : Nat) (hx : x < 18446744073709551616) : nanB x = true ∨ x = 9218868437227405312 ∨ x = 18442240474082181120 ∨ ∃ s m i, Ieee.double.read x = .number s m i := by
  cases hr : Ieee.double.read x with
  | nan s f => left; unfold nanB; rw [hr]; rfl
  | infinity s =>
    right
    have := read_inf hx hr
    cases s
    · exact Or.inl this
    · exact Or.inr (Or.inl this)
  | number s m i => exact Or.inr (Or.inr (Or.inr ⟨s, m, i, rfl⟩))
def MillsP (x : Nat) (w : World) (e : Ending) (w' : World) : Prop := e = .returned (.tuple #[.int .i64 (millsF x).1, .int .i64 (millsF x).2]) ∧ ∃ m, w' = w.drewN m
theorem nan_ltB {x y : Nat} (h : nanB x = true) : ltB y x = false := by unfold ltB; rw [h]; simp
set_option maxHeartbeats 1000000 in
theorem mills_any (x : Nat) (w : World) (hx : x < 18446744073709551616) : Calls Tryd.prog 36 #[.float .f64 x] w (MillsP x w) := by
  have IA := Lib.hid (isInf_above x)
  have IB := Lib.hid (fun w => isInf_below x w hx)
  have NA := Lib.hid (isNaN_any x)
  rcases float_ways x hx with hn | rfl | rfl | ⟨s, m, i, hr⟩
  · obtain ⟨r, m, h, hr⟩ := run_fop (P := Tryd.prog) (op := .mul) rfl 42 x 4652007308841189376 w
    have HR := Lib.hid hr
    have HN := Lib.hid hn
    clear hr
    rw [hn] at NA
    clear hn
    go_enter Tryd.func36, Tryd.ntmps36
    go_wp2_with (first | (go_at_call 58; (with_reducible refine (NA.out _).mono ?_); rintro e w' ⟨rfl, rfl⟩))
    go_ret2
    exact ⟨by unfold millsF; rw [HN.out]; rfl, _, rfl⟩
  · have h := fun w => run_float_arith (P := Tryd.prog) w .mul 42 .f64 9218868437227405312 4652007308841189376 9218868437227405312 (by kernel_rfl)
    rw [show nanB 9218868437227405312 = false from by kernel_rfl] at NA
    rw [show ltB 9218868437227405311 9218868437227405312 = true from by rw [← order_lt]; kernel_rfl] at IA
    go_enter Tryd.func36, Tryd.ntmps36
    go_wp2_with (first | (go_at_call 58; (with_reducible refine (NA.out _).mono ?_); rintro e w' ⟨rfl, rfl⟩) | (go_at_call 62; (with_reducible first | refine (IA.out _).mono ?_ | refine (IB.out _).mono ?_); rintro e w' ⟨rfl, rfl⟩))
    go_ret2
    exact ⟨rfl, 0, rfl⟩
  · have h := fun w => run_float_arith (P := Tryd.prog) w .mul 42 .f64 18442240474082181120 4652007308841189376 18442240474082181120 (by kernel_rfl)
    rw [show nanB 18442240474082181120 = false from by kernel_rfl] at NA
    rw [show ltB 9218868437227405311 18442240474082181120 = false from by rw [← order_lt]; kernel_rfl] at IA
    rw [show ltB 9218868437227405311 (negW 18442240474082181120) = true from by rw [← order_lt]; kernel_rfl] at IB
    go_enter Tryd.func36, Tryd.ntmps36
    go_wp2_with (first | (go_at_call 58; (with_reducible refine (NA.out _).mono ?_); rintro e w' ⟨rfl, rfl⟩) | (go_at_call 62; (with_reducible first | refine (IA.out _).mono ?_ | refine (IB.out _).mono ?_); rintro e w' ⟨rfl, rfl⟩))
    go_ret2
    exact ⟨rfl, 0, rfl⟩
  · have hn := nan_number hr
    have hM := max_number hx hr
    have h := fun w => run_float_arith (P := Tryd.prog) w .mul 42 .f64 x 4652007308841189376 (thouW x) (mul_1000 hn)
    rw [hn] at NA
    rw [hM.1] at IA
    rw [hM.2.1] at IB
    have AB := Lib.hid (fun w => abs_any (thouW x) w (thouW_lt x))
    have hg : (FloatKind.f64.format.order (thouW x % 9223372036854775808) 4845873199050653696 == some .gt) = bigB (thouW x) := by rw [fmt64, order_gt]; exact bigB_ours (thouW_lt x) (nan_thouW hn)
    have hne : x ≠ 9218868437227405312 ∧ x ≠ 18442240474082181120 := by
      constructor
      · rintro rfl
        rw [show Ieee.double.read 9218868437227405312 = .infinity false from by kernel_rfl] at hr
        cases hr
      · rintro rfl
        rw [show Ieee.double.read 18442240474082181120 = .infinity true from by kernel_rfl] at hr
        cases hr
    have hmf : millsF x = if bigB (thouW x) then (0, 4) else (Int.tdiv (ky (thouW x)) unitI, 0) := by
      unfold millsF
      rw [hn, if_neg (by decide), if_neg hne.1, if_neg hne.2]
    have HMF := Lib.hid hmf
    have hsm := toInt_small (nan_thouW hn)
    clear hmf hne hM hn hr hx
    cases hb : bigB (thouW x)
    · have hc := fun w => run_convert_float_int (P := Tryd.prog) w 42 3 .f64 .i64 (thouW x) _ (by kernel_rfl) (by kernel_rfl) (hsm hb)
      clear hsm
      rw [hb] at hg
      have HB := Lib.hid hb
      clear hb
      go_enter Tryd.func36, Tryd.ntmps36
      go_wp2_with (first | (go_at_call 58; (with_reducible refine (NA.out _).mono ?_); rintro e w' ⟨rfl, rfl⟩) | (go_at_call 62; (with_reducible first | refine (IA.out _).mono ?_ | refine (IB.out _).mono ?_); rintro e w' ⟨rfl, rfl⟩) | (go_at_call 63; (with_reducible refine (AB.out _).mono ?_); rintro e w' ⟨rfl, rfl⟩))
      go_ret2
      exact ⟨by rw [HMF.out, HB.out]; rfl, 0, rfl⟩
    · clear hsm
      rw [hb] at hg
      have HB := Lib.hid hb
      clear hb
      go_enter Tryd.func36, Tryd.ntmps36
      go_wp2_with (first | (go_at_call 58; (with_reducible refine (NA.out _).mono ?_); rintro e w' ⟨rfl, rfl⟩) | (go_at_call 62; (with_reducible first | refine (IA.out _).mono ?_ | refine (IB.out _).mono ?_); rintro e w' ⟨rfl, rfl⟩) | (go_at_call 63; (with_reducible refine (AB.out _).mono ?_); rintro e w' ⟨rfl, rfl⟩))
      go_ret2
      exact ⟨by rw [HMF.out, HB.out]; rfl, 0, rfl⟩
end Go.Proofs.YtcbkgammlfjjoaaDoor
namespace Go.Proofs.YtcbkgammlfjjoaaDoor
set_option linter.unusedVariables false
set_option linter.unusedSimpArgs false
open Go.RowKit Go.Proofs.YtcbkgammlfjjoaaDoorW.PrintWords Go.Proofs.YtcbkgammlfjjoaaDoorW.PrintLast Go.Proofs.YtcbkgammlfjjoaaDoorW.PrintMore

theorem inf_false (w : World) : Calls Tryd.prog 54 #[.bool false] w fun e w' => e = .returned (.float .f64 9218868437227405312) ∧ w = w' := infR_any false w
theorem inf_true (w : World) : Calls Tryd.prog 54 #[.bool true] w fun e w' => e = .returned (.float .f64 18442240474082181120) ∧ w = w' := infR_any true w
set_option maxHeartbeats 1000000 in
theorem millsR_any (x : Nat) (w : World) (hx : x < 18446744073709551616) : Calls Tryd.prog 34 #[.float .f64 x] w (MillsP x w) := by
  have NA := Lib.hid (none_any x)
  have he1 : (FloatKind.f64.format.order x 9218868437227405312 == some .eq) = eqB x 9218868437227405312 := by rw [fmt64, order_eq]
  have he2 : (FloatKind.f64.format.order x 18442240474082181120 == some .eq) = eqB x 18442240474082181120 := by rw [fmt64, order_eq]
  rcases float_ways x hx with hn | rfl | rfl | ⟨s, m, i, hr⟩
  · have HN := Lib.hid hn
    rw [hn] at NA
    clear hn he1 he2
    go_enter Tryd.func34, Tryd.ntmps34
    go_wp2_with (first | (go_at_call 37; (with_reducible refine (NA.out _).mono ?_); rintro e w' ⟨rfl, rfl⟩))
    go_ret2
    exact ⟨by unfold millsF; rw [HN.out]; rfl, 0, rfl⟩
  · rw [show nanB 9218868437227405312 = false from by kernel_rfl] at NA
    rw [show eqB 9218868437227405312 9218868437227405312 = true from by rw [← order_eq]; kernel_rfl] at he1
    clear he2
    go_enter Tryd.func34, Tryd.ntmps34
    go_wp2_with (first | (go_at_call 37; (with_reducible refine (NA.out _).mono ?_); rintro e w' ⟨rfl, rfl⟩) | (go_at_call 54; (with_reducible first | refine (inf_false _).mono ?_ | refine (inf_true _).mono ?_); rintro e w' ⟨rfl, rfl⟩))
    go_ret2
    exact ⟨rfl, 0, rfl⟩
  · rw [show nanB 18442240474082181120 = false from by kernel_rfl] at NA
    rw [show eqB 18442240474082181120 9218868437227405312 = false from by rw [← order_eq]; kernel_rfl] at he1
    rw [show eqB 18442240474082181120 18442240474082181120 = true from by rw [← order_eq]; kernel_rfl] at he2
    go_enter Tryd.func34, Tryd.ntmps34
    go_wp2_with (first | (go_at_call 37; (with_reducible refine (NA.out _).mono ?_); rintro e w' ⟨rfl, rfl⟩) | (go_at_call 54; (with_reducible first | refine (inf_false _).mono ?_ | refine (inf_true _).mono ?_); rintro e w' ⟨rfl, rfl⟩))
    go_ret2
    exact ⟨rfl, 0, rfl⟩
  · have hn := nan_number hr
    have hM := max_number hx hr
    have h := fun w => run_float_arith (P := Tryd.prog) w .mul 42 .f64 x 4652007308841189376 (thouW x) (mul_1000 hn)
    rw [hn] at NA
    rw [hM.2.2.1] at he1
    rw [hM.2.2.2] at he2
    have hg1 : (FloatKind.f64.format.order (thouW x) 4845873199050653696 == some .gt) = ltB 4845873199050653696 (thouW x) := by rw [fmt64, order_gt]
    have hg2 : (FloatKind.f64.format.order (thouW x) 14069245235905429504 == some .lt) = ltB (thouW x) 14069245235905429504 := by rw [fmt64, order_lt]
    have hg := bigB_theirs (nan_thouW hn)
    have hne : x ≠ 9218868437227405312 ∧ x ≠ 18442240474082181120 := by
      constructor
      · rintro rfl
        rw [show Ieee.double.read 9218868437227405312 = .infinity false from by kernel_rfl] at hr
        cases hr
      · rintro rfl
        rw [show Ieee.double.read 18442240474082181120 = .infinity true from by kernel_rfl] at hr
        cases hr
    have hmf : millsF x = if bigB (thouW x) then (0, 4) else (Int.tdiv (ky (thouW x)) unitI, 0) := by
      unfold millsF
      rw [hn, if_neg (by decide), if_neg hne.1, if_neg hne.2]
    have HMF := Lib.hid hmf
    have hsm := toInt_small (nan_thouW hn)
    clear hmf hne hM hn hr hx
    generalize ltB 4845873199050653696 (thouW x) = g1 at hg hg1
    generalize ltB (thouW x) 14069245235905429504 = g2 at hg hg2
    cases g1 with
    | false =>
      cases g2 with
      | false =>
        have hb : bigB (thouW x) = false := hg.symm
        have hc := fun w => run_convert_float_int (P := Tryd.prog) w 42 3 .f64 .i64 (thouW x) _ (by kernel_rfl) (by kernel_rfl) (hsm hb)
        have HB := Lib.hid hb
        clear hsm hg hb
        go_enter Tryd.func34, Tryd.ntmps34
        go_wp2_with (first | (go_at_call 37; (with_reducible refine (NA.out _).mono ?_); rintro e w' ⟨rfl, rfl⟩) | (go_at_call 54; (with_reducible first | refine (inf_false _).mono ?_ | refine (inf_true _).mono ?_); rintro e w' ⟨rfl, rfl⟩))
        go_ret2
        exact ⟨by rw [HMF.out, HB.out]; rfl, 0, rfl⟩
      | true =>
        have hb : bigB (thouW x) = true := hg.symm
        have HB := Lib.hid hb
        clear hsm hg hb
        go_enter Tryd.func34, Tryd.ntmps34
        go_wp2_with (first | (go_at_call 37; (with_reducible refine (NA.out _).mono ?_); rintro e w' ⟨rfl, rfl⟩) | (go_at_call 54; (with_reducible first | refine (inf_false _).mono ?_ | refine (inf_true _).mono ?_); rintro e w' ⟨rfl, rfl⟩))
        go_ret2
        exact ⟨by rw [HMF.out, HB.out]; rfl, 0, rfl⟩
    | true =>
      have hb : bigB (thouW x) = true := by rw [← hg]; rfl
      have HB := Lib.hid hb
      clear hsm hg hb hg2
      go_enter Tryd.func34, Tryd.ntmps34
      go_wp2_with (first | (go_at_call 37; (with_reducible refine (NA.out _).mono ?_); rintro e w' ⟨rfl, rfl⟩) | (go_at_call 54; (with_reducible first | refine (inf_false _).mono ?_ | refine (inf_true _).mono ?_); rintro e w' ⟨rfl, rfl⟩))
      go_ret2
      exact ⟨by rw [HMF.out, HB.out]; rfl, 0, rfl⟩
theorem millsB_any (x : Nat) (n k : Int) (w : World) (hx : x < 18446744073709551616) : Calls Tryd.prog 35 #[.float .f64 x, .int .i64 n, .int .i64 k] w fun e w' => e = .returned (.bool ((millsF x).1 == n && (millsF x).2 == k)) ∧ ∃ m, w' = w.drewN m := by
  have MA := Lib.hid (mills_any x w hx)
  generalize hmf : millsF x = mf at *
  obtain ⟨p, q⟩ := mf
  have HMF := Lib.hid hmf
  clear hmf
  by_cases hp : p = n
  · have hp' : (p == n) = true := by simpa using hp
    rw [hp']
    clear hp
    go_enter Tryd.func35, Tryd.ntmps35
    go_wp2_with (first | (go_at_call 36; (with_reducible refine (MA.out).mono ?_); rintro e w' ⟨he, m, rfl⟩; rw [HMF.out] at he; subst he))
    go_ret
    exact ⟨by simp, m, rfl⟩
  · have hp' : (p == n) = false := by simpa using hp
    rw [hp']
    clear hp
    go_enter Tryd.func35, Tryd.ntmps35
    go_wp2_with (first | (go_at_call 36; (with_reducible refine (MA.out).mono ?_); rintro e w' ⟨he, m, rfl⟩; rw [HMF.out] at he; subst he))
    go_ret
    exact ⟨by simp, m, rfl⟩
end Go.Proofs.YtcbkgammlfjjoaaDoor
namespace Go.Proofs.YtcbkgammlfjjoaaDoor
set_option linter.unusedVariables false
set_option linter.unusedSimpArgs false
open Go.RowKit Go.Proofs.YtcbkgammlfjjoaaDoorW.PrintWords Go.Proofs.YtcbkgammlfjjoaaDoorW.PrintLast Go.Proofs.YtcbkgammlfjjoaaDoorW.PrintMore

/-- the floats that floated gives -/
def Fl (r : Nat) : Prop := r < 18446744073709551616 ∧ (FR .quo 0 0 r ∨ r = 9218868437227405312 ∨ r = 18442240474082181120 ∨ r = 0 ∨ r = 9223372036854775808 ∨
  ∃ q : Int, -576460752303423488 ≤ q ∧ q ≤ 576460752303423487 ∧ (r = floatOfInt .f64 q ∨ FR .quo 4607182418800017408 (floatOfInt .f64 q) r ∨ FR .quo (floatOfInt .f64 q) 4634204016564240384 r))
def FloatedP (w : World) (e : Ending) (w' : World) : Prop := ∃ r m, e = .returned (.float .f64 r) ∧ w' = w.drewN m ∧ Fl r
theorem foi_lt (q : Int) : floatOfInt .f64 q < 18446744073709551616 := Nat.lt_of_lt_of_le (Ieee.double.write_lt (.number (decide (q < 0)) q.natAbs 0)) (by decide)
theorem shr4 (n : Int) (h0 : -9223372036854775808 ≤ n) (h1 : n ≤ 9223372036854775807) : -576460752303423488 ≤ n / 16 ∧ n / 16 ≤ 576460752303423487 := by omega
theorem floated_any (n : Int) (w : World) (h0 : -9223372036854775808 ≤ n) (h1 : n ≤ 9223372036854775807) : Calls Tryd.prog 30 #[.int .i64 n] w (FloatedP w) := by
  have SH := Lib.hid (shr4 n h0 h1)
  obtain ⟨k, hk⟩ : ∃ k, bits .and .i64 n 15 = k := ⟨_, rfl⟩
  have F0 := run_fop (P := Tryd.prog) (op := .quo) rfl 42 0 0 w
  obtain ⟨r0, m0, f0, hr0⟩ := F0
  have f4 := fun w => run_float_arith (P := Tryd.prog) w .quo 42 .f64 13830554455654793216 9218868437227405312 9223372036854775808 (by kernel_rfl)
  obtain ⟨r6, m6, f6, hr6⟩ := run_fop (P := Tryd.prog) (op := .quo) rfl 42 4607182418800017408 (floatOfInt .f64 (n / 16)) w
  obtain ⟨r7, m7, f7, hr7⟩ := run_fop (P := Tryd.prog) (op := .quo) rfl 42 (floatOfInt .f64 (n / 16)) 4634204016564240384 w
  have H0 := Lib.hid hr0
  have H6 := Lib.hid hr6
  have H7 := Lib.hid hr7
  clear hr0 hr6 hr7
  by_cases h : k = 0
  · subst h
    go_enter Tryd.func30, Tryd.ntmps30
    go_wp2
    go_ret
    exact ⟨r0, m0, rfl, rfl, H0.out.1, Or.inl H0.out⟩
  by_cases h' : k = 1
  · subst h'
    go_enter Tryd.func30, Tryd.ntmps30
    go_wp2_with (first | (go_at_call 54; (with_reducible first | refine (inf_false _).mono ?_ | refine (inf_true _).mono ?_); rintro e w' ⟨rfl, rfl⟩))
    go_ret
    exact ⟨_, 0, rfl, rfl, by decide, Or.inr (Or.inl rfl)⟩
  by_cases h'' : k = 2
  · subst h''
    go_enter Tryd.func30, Tryd.ntmps30
    go_wp2_with (first | (go_at_call 54; (with_reducible first | refine (inf_false _).mono ?_ | refine (inf_true _).mono ?_); rintro e w' ⟨rfl, rfl⟩))
    go_ret
    exact ⟨_, 0, rfl, rfl, by decide, Or.inr (Or.inr (Or.inl rfl))⟩
  by_cases h3 : k = 3
  · subst h3
    go_enter Tryd.func30, Tryd.ntmps30
    go_wp2
    go_ret
    exact ⟨_, 0, rfl, rfl, by decide, Or.inr (Or.inr (Or.inr (Or.inl rfl)))⟩
  by_cases h4 : k = 4
  · subst h4
    go_enter Tryd.func30, Tryd.ntmps30
    go_wp2_with (first | (go_at_call 54; (with_reducible first | refine (inf_false _).mono ?_ | refine (inf_true _).mono ?_); rintro e w' ⟨rfl, rfl⟩))
    go_ret
    exact ⟨_, 0, rfl, rfl, by decide, Or.inr (Or.inr (Or.inr (Or.inr (Or.inl rfl))))⟩
  by_cases h5 : k = 5
  · subst h5
    go_enter Tryd.func30, Tryd.ntmps30
    go_wp2
    go_ret
    exact ⟨_, 0, rfl, rfl, foi_lt _, Or.inr (Or.inr (Or.inr (Or.inr (Or.inr ⟨n / 16, SH.out.1, SH.out.2, Or.inl rfl⟩))))⟩
  by_cases h6 : k = 6
  · subst h6
    go_enter Tryd.func30, Tryd.ntmps30
    go_wp2
    go_ret
    exact ⟨r6, m6, rfl, rfl, H6.out.1, Or.inr (Or.inr (Or.inr (Or.inr (Or.inr ⟨n / 16, SH.out.1, SH.out.2, Or.inr (Or.inl H6.out)⟩))))⟩
  · go_enter Tryd.func30, Tryd.ntmps30
    go_wp2
    go_ret
    exact ⟨r7, m7, rfl, rfl, H7.out.1, Or.inr (Or.inr (Or.inr (Or.inr (Or.inr ⟨n / 16, SH.out.1, SH.out.2, Or.inr (Or.inr H7.out)⟩))))⟩
end Go.Proofs.YtcbkgammlfjjoaaDoor
