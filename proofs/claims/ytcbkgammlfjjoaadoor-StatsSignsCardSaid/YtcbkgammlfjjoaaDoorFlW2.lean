/- Ratio, Compare, sign, Order, walked. -/
import Derived.Test.YtcbkgammlfjjoaaDoorFlW1
import Derived.Test.YtcbkgammlfjjoaaDoorWl2
namespace Go.Proofs.YtcbkgammlfjjoaaDoor
set_option linter.unusedVariables false
set_option linter.unusedSimpArgs false
open Go.RowKit Go.Proofs.YtcbkgammlfjjoaaDoorW.PrintWords Go.Proofs.YtcbkgammlfjjoaaDoorW.PrintLast Go.Proofs.YtcbkgammlfjjoaaDoorW.PrintMore

theorem nan_drawn (t : Nat) : nanB ((t % 2) * 2 ^ 63 + 0x7ff0000000000000 + 1 + (t / 2) % (2 ^ 52 - 1)) = true ∧ (t % 2) * 2 ^ 63 + 0x7ff0000000000000 + 1 + (t / 2) % (2 ^ 52 - 1) < 18446744073709551616 := by
  have h1 : t % 2 < 2 := Nat.mod_lt _ (by decide)
  have h2 : t / 2 % (2 ^ 52 - 1) < 4503599627370495 := Nat.mod_lt _ (by decide)
  generalize t % 2 = s at h1
  generalize t / 2 % (2 ^ 52 - 1) = r at h2
  refine ⟨?_, by omega⟩
  have hb : (s * 2 ^ 63 + 0x7ff0000000000000 + 1 + r) % 9223372036854775808 = 0x7ff0000000000001 + r := by omega
  generalize s * 2 ^ 63 + 0x7ff0000000000000 + 1 + r = b at hb
  unfold nanB Ieee.Format.read
  rw [dl, db, di, dsw]
  dsimp only
  rw [hb, if_neg (by omega), if_neg (by omega), if_neg (by omega)]
  rfl
/-- what a float operation may answer -/
def FR (op : BinOp) (x y r : Nat) : Prop := r < 18446744073709551616 ∧ (floatBits op .f64 x y = some r ∨ (floatBits op .f64 x y = none ∧ nanB r = true))
def isF (op : BinOp) : Bool := match op with | .add | .sub | .mul | .quo => true | _ => false
theorem run_fop {P : Program} {op : BinOp} (hop : isF op = true) (t : TypeId) (x y : Nat) (w : World) :
    ∃ r m, (binOp op t (.float .f64 x) (.float .f64 y)).run P w = .ok (.float .f64 r) (w.drewN m) ∧ FR op x y r := by
  cases h : floatBits op .f64 x y with
  | some r =>
    refine ⟨r, 0, run_float_arith w op t .f64 x y r h, ?_, Or.inl h⟩
    unfold floatBits at h
    split at h
    · exact Ieee.double.add_lt h
    · exact Ieee.double.sub_lt h
    · exact Ieee.double.mul_lt h
    · exact Ieee.double.div_lt h
    · cases h
  | none =>
    have hq := nan_drawn (w.tape w.drawn (.nanBits .f64 x y))
    refine ⟨_, 1, ?_, hq.2, Or.inr ⟨h, hq.1⟩⟩
    unfold floatBits at h
    cases op <;> simp only at h <;> first | (cases hop; done) | skip
    all_goals
      simp [binOp, Op.floatArith, h]
      rfl
def RatioP (a b : Nat) (w : World) (e : Ending) (w' : World) : Prop := ∃ r m, e = .returned (.float .f64 r) ∧ w' = w.drewN m ∧ FR .quo a b r
theorem ratio_any (a b : Nat) (w : World) : Calls Tryd.prog 31 #[.float .f64 a, .float .f64 b] w (RatioP a b w) := by
  obtain ⟨r, m, h, hr⟩ := run_fop (P := Tryd.prog) (op := .quo) rfl 42 a b w
  go_enter Tryd.func31, Tryd.ntmps31
  go_wp2
  go_ret
  exact ⟨r, m, rfl, rfl, hr⟩
theorem cmpInt_any (a b : Int) (w : World) : Calls Tryd.prog 56 #[.int .i64 a, .int .i64 b] w fun e w' => e = .returned (.int .i64 (cmpI a b)) ∧ w = w' := by
  unfold cmpI
  by_cases h1 : a < b
  · have hn : (a != a) = false := bne_self_eq_false _
    have hn2 : (b != b) = false := bne_self_eq_false _
    rw [if_pos h1]
    go_enter Tryd.func56, Tryd.ntmps56
    go_wp2
    go_ret
    exact ⟨rfl, rfl⟩
  · rw [if_neg h1]
    by_cases h2 : b < a
    · rw [if_pos h2]
      go_enter Tryd.func56, Tryd.ntmps56
      go_wp2
      go_ret
      exact ⟨rfl, rfl⟩
    · rw [if_neg h2]
      go_enter Tryd.func56, Tryd.ntmps56
      go_wp2
      go_ret
      exact ⟨rfl, rfl⟩
/-- how floats stand, plainly -/
def cmpF (a b : Nat) : Int := if nanB a then (if nanB b then 0 else -1) else if nanB b then 1 else if ky a < ky b then -1 else if ky b < ky a then 1 else 0
theorem cmpFloat_any (a b : Nat) (w : World) : Calls Tryd.prog 60 #[.float .f64 a, .float .f64 b] w fun e w' => e = .returned (.int .i64 (cmpF a b)) ∧ w = w' := by
  have h1 : (FloatKind.f64.format.order a b == some .lt) = ltB a b := by rw [fmt64, order_lt]
  have h2 : (FloatKind.f64.format.order a b == some .gt) = ltB b a := by rw [fmt64, order_gt]
  have na := isNaN2_any a
  have nb := isNaN2_any b
  unfold ltB at h1 h2
  unfold cmpF
  generalize nanB a = p at na h1 h2
  generalize nanB b = q at nb h1 h2
  have NA := Lib.hid na
  have NB := Lib.hid nb
  clear na nb
  cases p <;> cases q
  · simp only [Bool.not_false, Bool.true_and, Bool.false_eq_true, if_false] at h1 h2 ⊢
    by_cases l1 : ky a < ky b
    · rw [decide_eq_true l1] at h1
      rw [if_pos l1]
      clear h2 l1
      go_enter Tryd.func60, Tryd.ntmps60
      go_wp2_with (go_at_call 74; (with_reducible first | refine (NA.out _).mono ?_ | refine (NB.out _).mono ?_); rintro e w' ⟨rfl, rfl⟩)
      go_ret
      exact ⟨rfl, rfl⟩
    · rw [decide_eq_false l1] at h1
      rw [if_neg l1]
      by_cases l2 : ky b < ky a
      · rw [decide_eq_true l2] at h2
        rw [if_pos l2]
        clear l1 l2
        go_enter Tryd.func60, Tryd.ntmps60
        go_wp2_with (go_at_call 74; (with_reducible first | refine (NA.out _).mono ?_ | refine (NB.out _).mono ?_); rintro e w' ⟨rfl, rfl⟩)
        go_ret
        exact ⟨rfl, rfl⟩
      · rw [decide_eq_false l2] at h2
        rw [if_neg l2]
        clear l1 l2
        go_enter Tryd.func60, Tryd.ntmps60
        go_wp2_with (go_at_call 74; (with_reducible first | refine (NA.out _).mono ?_ | refine (NB.out _).mono ?_); rintro e w' ⟨rfl, rfl⟩)
        go_ret
        exact ⟨rfl, rfl⟩
  all_goals
    clear h1 h2
    go_enter Tryd.func60, Tryd.ntmps60
    go_wp2_with (go_at_call 74; (with_reducible first | refine (NA.out _).mono ?_ | refine (NB.out _).mono ?_); rintro e w' ⟨rfl, rfl⟩)
    go_ret
    exact ⟨rfl, rfl⟩
def signF (a : Nat) : Int := if minusF a then 0 else 1
theorem sign_any (a : Nat) (w : World) (ha : a < 18446744073709551616) : Calls Tryd.prog 61 #[.float .f64 a] w fun e w' => e = .returned (.int .i64 (signF a)) ∧ w = w' := by
  have na := isNaN_any a
  have sa := fun w => signbit_any a w ha
  unfold signF minusF
  generalize nanB a = p at na
  generalize signBit a = q at sa
  have NA := Lib.hid na
  have SA := Lib.hid sa
  clear na sa
  cases p <;> cases q
  all_goals
    go_enter Tryd.func61, Tryd.ntmps61
    go_wp2_with (first | (go_at_call 75; with_reducible refine (SA.out _).mono ?_; rintro e w' ⟨rfl, rfl⟩) | (go_at_call 58; with_reducible refine (NA.out _).mono ?_; rintro e w' ⟨rfl, rfl⟩))
    go_ret
    exact ⟨rfl, rfl⟩
/-- Order, plainly -/
def ordF (a b : Nat) : Int := if nanB a then (if nanB b then 0 else 1) else if nanB b then -1 else if ky a < ky b then -1 else if ky b < ky a then 1 else cmpI (signF a) (signF b)
theorem ordR_any (a b : Nat) (w : World) (ha : a < 18446744073709551616) (hb : b < 18446744073709551616) : Calls Tryd.prog 33 #[.float .f64 a, .float .f64 b] w fun e w' => e = .returned (.int .i64 (ordF a b)) ∧ w = w' := by
  have h1 : (FloatKind.f64.format.order a b == some .lt) = ltB a b := by rw [fmt64, order_lt]
  have h2 : (FloatKind.f64.format.order a b == some .gt) = ltB b a := by rw [fmt64, order_gt]
  have na := none_any a
  have nb := none_any b
  have ma := fun w => minus_any a w ha
  have mb := fun w => minus_any b w hb
  unfold ltB at h1 h2
  unfold ordF signF
  generalize minusF a = x at ma
  generalize minusF b = y at mb
  generalize nanB a = p at na h1 h2
  generalize nanB b = q at nb h1 h2
  have NA := Lib.hid na
  have NB := Lib.hid nb
  have MA := Lib.hid ma
  have MB := Lib.hid mb
  clear na nb ma mb ha hb
  cases p <;> cases q
  · simp only [Bool.not_false, Bool.true_and, Bool.false_eq_true, if_false] at h1 h2 ⊢
    by_cases l1 : ky a < ky b
    · rw [decide_eq_true l1] at h1
      rw [if_pos l1]
      clear h2 l1
      go_enter Tryd.func33, Tryd.ntmps33
      go_wp2_with (first | (go_at_call 37; (with_reducible first | refine (NA.out _).mono ?_ | refine (NB.out _).mono ?_); rintro e w' ⟨rfl, rfl⟩) | (go_at_call 55; (with_reducible first | refine (MA.out _).mono ?_ | refine (MB.out _).mono ?_); rintro e w' ⟨rfl, rfl⟩))
      go_ret
      exact ⟨rfl, rfl⟩
    · rw [decide_eq_false l1] at h1
      rw [if_neg l1]
      by_cases l2 : ky b < ky a
      · rw [decide_eq_true l2] at h2
        rw [if_pos l2]
        clear l1 l2
        go_enter Tryd.func33, Tryd.ntmps33
        go_wp2_with (first | (go_at_call 37; (with_reducible first | refine (NA.out _).mono ?_ | refine (NB.out _).mono ?_); rintro e w' ⟨rfl, rfl⟩) | (go_at_call 55; (with_reducible first | refine (MA.out _).mono ?_ | refine (MB.out _).mono ?_); rintro e w' ⟨rfl, rfl⟩))
        go_ret
        exact ⟨rfl, rfl⟩
      · rw [decide_eq_false l2] at h2
        rw [if_neg l2]
        clear l1 l2
        cases x <;> cases y
        all_goals
          go_enter Tryd.func33, Tryd.ntmps33
          go_wp2_with (first | (go_at_call 37; (with_reducible first | refine (NA.out _).mono ?_ | refine (NB.out _).mono ?_); rintro e w' ⟨rfl, rfl⟩) | (go_at_call 55; (with_reducible first | refine (MA.out _).mono ?_ | refine (MB.out _).mono ?_); rintro e w' ⟨rfl, rfl⟩))
          go_ret
          exact ⟨rfl, rfl⟩
  all_goals
    clear h1 h2
    go_enter Tryd.func33, Tryd.ntmps33
    go_wp2_with (first | (go_at_call 37; (with_reducible first | refine (NA.out _).mono ?_ | refine (NB.out _).mono ?_); rintro e w' ⟨rfl, rfl⟩) | (go_at_call 55; (with_reducible first | refine (MA.out _).mono ?_ | refine (MB.out _).mono ?_); rintro e w' ⟨rfl, rfl⟩))
    go_ret
    exact ⟨rfl, rfl⟩
end Go.Proofs.YtcbkgammlfjjoaaDoor
