/- IsInf, Mills, walked. -/
import Derived.Test.YtcbkgammlfjjoaaDoorFlW3
import Derived.Test.YtcbkgammlfjjoaaDoorFlC
namespace Go.Proofs.YtcbkgammlfjjoaaDoor
set_option linter.unusedVariables false
set_option linter.unusedSimpArgs false
open Go.RowKit Go.Proofs.YtcbkgammlfjjoaaDoorW.PrintWords Go.Proofs.YtcbkgammlfjjoaaDoorW.PrintLast Go.Proofs.YtcbkgammlfjjoaaDoorW.PrintMore

theorem isInf_above (x : Nat) (w : World) : Calls Tryd.prog 62 #[.float .f64 x, .int .i64 1] w fun e w' => e = .returned (.bool (ltB 9218868437227405311 x)) ∧ w = w' := by
  have h : (FloatKind.f64.format.order x 9218868437227405311 == some .gt) = ltB 9218868437227405311 x := by rw [fmt64, order_gt]
  go_enter Tryd.func62, Tryd.ntmps62
  go_wp2
  go_ret
  exact ⟨rfl, rfl⟩
theorem isInf_below (x : Nat) (w : World) (hx : x < 18446744073709551616) : Calls Tryd.prog 62 #[.float .f64 x, .int .i64 (-1)] w fun e w' => e = .returned (.bool (ltB 9218868437227405311 (negW x))) ∧ w = w' := by
  have h : (FloatKind.f64.format.order (negW x) 9218868437227405311 == some .gt) = ltB 9218868437227405311 (negW x) := by rw [fmt64, order_gt]
  have hneg : Op.unary .neg (.float .f64 x) = pure (.float .f64 (negW x)) := by rw [← neg_eq hx]; rfl
  go_enter Tryd.func62, Tryd.ntmps62
  go_wp2
  go_ret
  exact ⟨rfl, rfl⟩
/-- what a float may be -/
theorem float_ways (x : Nat) (hx : x < 18446744073709551616) : nanB x = true ∨ x = 9218868437227405312 ∨ x = 18442240474082181120 ∨ ∃ s m i, Ieee.double.read x = .number s m i := by
  cases hr : Ieee.double.read x with
  | nan s f => left; unfold nanB; rw [hr]; rfl
  | infinity s =>
    right
    have := read_inf hx hr
    cases s
    · exact Or.inl this
    · exact Or.inr (Or.inl this)
  | number s m i => exact Or.inr (Or.inr (Or.inr ⟨s, m, i, rfl⟩))
def MillsP (x : Nat) (w : World) (e : Ending) (w' : World) : Prop := e = .returned (.tuple #[.int .i64 (millsF x).1, .int .i64 (millsF x).2]) ∧ ∃ m, w' = w.drewN m
theorem nan_ltB {x y : Nat} (h : nanB x = true) : ltB y x = false := by unfold ltB; rw [h]; simp
set_option maxHeartbeats 1000000 in
theorem mills_any (x : Nat) (w : World) (hx : x < 18446744073709551616) : Calls Tryd.prog 36 #[.float .f64 x] w (MillsP x w) := by
  have IA := Lib.hid (isInf_above x)
  have IB := Lib.hid (fun w => isInf_below x w hx)
  have NA := Lib.hid (isNaN_any x)
  rcases float_ways x hx with hn | rfl | rfl | ⟨s, m, i, hr⟩
  · obtain ⟨r, m, h, hr⟩ := run_fop (P := Tryd.prog) (op := .mul) rfl 42 x 4652007308841189376 w
    have HR := Lib.hid hr
    have HN := Lib.hid hn
    clear hr
    rw [hn] at NA
    clear hn
    go_enter Tryd.func36, Tryd.ntmps36
    go_wp2_with (first | (go_at_call 58; (with_reducible refine (NA.out _).mono ?_); rintro e w' ⟨rfl, rfl⟩))
    go_ret2
    exact ⟨by unfold millsF; rw [HN.out]; rfl, _, rfl⟩
  · have h := fun w => run_float_arith (P := Tryd.prog) w .mul 42 .f64 9218868437227405312 4652007308841189376 9218868437227405312 (by kernel_rfl)
    rw [show nanB 9218868437227405312 = false from by kernel_rfl] at NA
    rw [show ltB 9218868437227405311 9218868437227405312 = true from by rw [← order_lt]; kernel_rfl] at IA
    go_enter Tryd.func36, Tryd.ntmps36
    go_wp2_with (first | (go_at_call 58; (with_reducible refine (NA.out _).mono ?_); rintro e w' ⟨rfl, rfl⟩) | (go_at_call 62; (with_reducible first | refine (IA.out _).mono ?_ | refine (IB.out _).mono ?_); rintro e w' ⟨rfl, rfl⟩))
    go_ret2
    exact ⟨rfl, 0, rfl⟩
  · have h := fun w => run_float_arith (P := Tryd.prog) w .mul 42 .f64 18442240474082181120 4652007308841189376 18442240474082181120 (by kernel_rfl)
    rw [show nanB 18442240474082181120 = false from by kernel_rfl] at NA
    rw [show ltB 9218868437227405311 18442240474082181120 = false from by rw [← order_lt]; kernel_rfl] at IA
    rw [show ltB 9218868437227405311 (negW 18442240474082181120) = true from by rw [← order_lt]; kernel_rfl] at IB
    go_enter Tryd.func36, Tryd.ntmps36
    go_wp2_with (first | (go_at_call 58; (with_reducible refine (NA.out _).mono ?_); rintro e w' ⟨rfl, rfl⟩) | (go_at_call 62; (with_reducible first | refine (IA.out _).mono ?_ | refine (IB.out _).mono ?_); rintro e w' ⟨rfl, rfl⟩))
    go_ret2
    exact ⟨rfl, 0, rfl⟩
  · have hn := nan_number hr
    have hM := max_number hx hr
    have h := fun w => run_float_arith (P := Tryd.prog) w .mul 42 .f64 x 4652007308841189376 (thouW x) (mul_1000 hn)
    rw [hn] at NA
    rw [hM.1] at IA
    rw [hM.2.1] at IB
    have AB := Lib.hid (fun w => abs_any (thouW x) w (thouW_lt x))
    have hg : (FloatKind.f64.format.order (thouW x % 9223372036854775808) 4845873199050653696 == some .gt) = bigB (thouW x) := by rw [fmt64, order_gt]; exact bigB_ours (thouW_lt x) (nan_thouW hn)
    have hne : x ≠ 9218868437227405312 ∧ x ≠ 18442240474082181120 := by
      constructor
      · rintro rfl
        rw [show Ieee.double.read 9218868437227405312 = .infinity false from by kernel_rfl] at hr
        cases hr
      · rintro rfl
        rw [show Ieee.double.read 18442240474082181120 = .infinity true from by kernel_rfl] at hr
        cases hr
    have hmf : millsF x = if bigB (thouW x) then (0, 4) else (Int.tdiv (ky (thouW x)) unitI, 0) := by
      unfold millsF
      rw [hn, if_neg (by decide), if_neg hne.1, if_neg hne.2]
    have HMF := Lib.hid hmf
    have hsm := toInt_small (nan_thouW hn)
    clear hmf hne hM hn hr hx
    cases hb : bigB (thouW x)
    · have hc := fun w => run_convert_float_int (P := Tryd.prog) w 42 3 .f64 .i64 (thouW x) _ (by kernel_rfl) (by kernel_rfl) (hsm hb)
      clear hsm
      rw [hb] at hg
      have HB := Lib.hid hb
      clear hb
      go_enter Tryd.func36, Tryd.ntmps36
      go_wp2_with (first | (go_at_call 58; (with_reducible refine (NA.out _).mono ?_); rintro e w' ⟨rfl, rfl⟩) | (go_at_call 62; (with_reducible first | refine (IA.out _).mono ?_ | refine (IB.out _).mono ?_); rintro e w' ⟨rfl, rfl⟩) | (go_at_call 63; (with_reducible refine (AB.out _).mono ?_); rintro e w' ⟨rfl, rfl⟩))
      go_ret2
      exact ⟨by rw [HMF.out, HB.out]; rfl, 0, rfl⟩
    · clear hsm
      rw [hb] at hg
      have HB := Lib.hid hb
      clear hb
      go_enter Tryd.func36, Tryd.ntmps36
      go_wp2_with (first | (go_at_call 58; (with_reducible refine (NA.out _).mono ?_); rintro e w' ⟨rfl, rfl⟩) | (go_at_call 62; (with_reducible first | refine (IA.out _).mono ?_ | refine (IB.out _).mono ?_); rintro e w' ⟨rfl, rfl⟩) | (go_at_call 63; (with_reducible refine (AB.out _).mono ?_); rintro e w' ⟨rfl, rfl⟩))
      go_ret2
      exact ⟨by rw [HMF.out, HB.out]; rfl, 0, rfl⟩
end Go.Proofs.YtcbkgammlfjjoaaDoor
