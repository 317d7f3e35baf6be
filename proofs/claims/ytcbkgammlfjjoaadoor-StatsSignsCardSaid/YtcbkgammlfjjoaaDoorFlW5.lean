/- The document's Mills, mills, floated, walked. -/
import Derived.Test.YtcbkgammlfjjoaaDoorFlW4
namespace Go.Proofs.YtcbkgammlfjjoaaDoor
set_option linter.unusedVariables false
set_option linter.unusedSimpArgs false
open Go.RowKit Go.Proofs.YtcbkgammlfjjoaaDoorW.PrintWords Go.Proofs.YtcbkgammlfjjoaaDoorW.PrintLast Go.Proofs.YtcbkgammlfjjoaaDoorW.PrintMore

theorem inf_false (w : World) : Calls Tryd.prog 54 #[.bool false] w fun e w' => e = .returned (.float .f64 9218868437227405312) ∧ w = w' := infR_any false w
theorem inf_true (w : World) : Calls Tryd.prog 54 #[.bool true] w fun e w' => e = .returned (.float .f64 18442240474082181120) ∧ w = w' := infR_any true w
set_option maxHeartbeats 1000000 in
theorem millsR_any (x : Nat) (w : World) (hx : x < 18446744073709551616) : Calls Tryd.prog 34 #[.float .f64 x] w (MillsP x w) := by
  have NA := Lib.hid (none_any x)
  have he1 : (FloatKind.f64.format.order x 9218868437227405312 == some .eq) = eqB x 9218868437227405312 := by rw [fmt64, order_eq]
  have he2 : (FloatKind.f64.format.order x 18442240474082181120 == some .eq) = eqB x 18442240474082181120 := by rw [fmt64, order_eq]
  rcases float_ways x hx with hn | rfl | rfl | ⟨s, m, i, hr⟩
  · have HN := Lib.hid hn
    rw [hn] at NA
    clear hn he1 he2
    go_enter Tryd.func34, Tryd.ntmps34
    go_wp2_with (first | (go_at_call 37; (with_reducible refine (NA.out _).mono ?_); rintro e w' ⟨rfl, rfl⟩))
    go_ret2
    exact ⟨by unfold millsF; rw [HN.out]; rfl, 0, rfl⟩
  · rw [show nanB 9218868437227405312 = false from by kernel_rfl] at NA
    rw [show eqB 9218868437227405312 9218868437227405312 = true from by rw [← order_eq]; kernel_rfl] at he1
    clear he2
    go_enter Tryd.func34, Tryd.ntmps34
    go_wp2_with (first | (go_at_call 37; (with_reducible refine (NA.out _).mono ?_); rintro e w' ⟨rfl, rfl⟩) | (go_at_call 54; (with_reducible first | refine (inf_false _).mono ?_ | refine (inf_true _).mono ?_); rintro e w' ⟨rfl, rfl⟩))
    go_ret2
    exact ⟨rfl, 0, rfl⟩
  · rw [show nanB 18442240474082181120 = false from by kernel_rfl] at NA
    rw [show eqB 18442240474082181120 9218868437227405312 = false from by rw [← order_eq]; kernel_rfl] at he1
    rw [show eqB 18442240474082181120 18442240474082181120 = true from by rw [← order_eq]; kernel_rfl] at he2
    go_enter Tryd.func34, Tryd.ntmps34
    go_wp2_with (first | (go_at_call 37; (with_reducible refine (NA.out _).mono ?_); rintro e w' ⟨rfl, rfl⟩) | (go_at_call 54; (with_reducible first | refine (inf_false _).mono ?_ | refine (inf_true _).mono ?_); rintro e w' ⟨rfl, rfl⟩))
    go_ret2
    exact ⟨rfl, 0, rfl⟩
  · have hn := nan_number hr
    have hM := max_number hx hr
    have h := fun w => run_float_arith (P := Tryd.prog) w .mul 42 .f64 x 4652007308841189376 (thouW x) (mul_1000 hn)
    rw [hn] at NA
    rw [hM.2.2.1] at he1
    rw [hM.2.2.2] at he2
    have hg1 : (FloatKind.f64.format.order (thouW x) 4845873199050653696 == some .gt) = ltB 4845873199050653696 (thouW x) := by rw [fmt64, order_gt]
    have hg2 : (FloatKind.f64.format.order (thouW x) 14069245235905429504 == some .lt) = ltB (thouW x) 14069245235905429504 := by rw [fmt64, order_lt]
    have hg := bigB_theirs (nan_thouW hn)
    have hne : x ≠ 9218868437227405312 ∧ x ≠ 18442240474082181120 := by
      constructor
      · rintro rfl
        rw [show Ieee.double.read 9218868437227405312 = .infinity false from by kernel_rfl] at hr
        cases hr
      · rintro rfl
        rw [show Ieee.double.read 18442240474082181120 = .infinity true from by kernel_rfl] at hr
        cases hr
    have hmf : millsF x = if bigB (thouW x) then (0, 4) else (Int.tdiv (ky (thouW x)) unitI, 0) := by
      unfold millsF
      rw [hn, if_neg (by decide), if_neg hne.1, if_neg hne.2]
    have HMF := Lib.hid hmf
    have hsm := toInt_small (nan_thouW hn)
    clear hmf hne hM hn hr hx
    generalize ltB 4845873199050653696 (thouW x) = g1 at hg hg1
    generalize ltB (thouW x) 14069245235905429504 = g2 at hg hg2
    cases g1 with
    | false =>
      cases g2 with
      | false =>
        have hb : bigB (thouW x) = false := hg.symm
        have hc := fun w => run_convert_float_int (P := Tryd.prog) w 42 3 .f64 .i64 (thouW x) _ (by kernel_rfl) (by kernel_rfl) (hsm hb)
        have HB := Lib.hid hb
        clear hsm hg hb
        go_enter Tryd.func34, Tryd.ntmps34
        go_wp2_with (first | (go_at_call 37; (with_reducible refine (NA.out _).mono ?_); rintro e w' ⟨rfl, rfl⟩) | (go_at_call 54; (with_reducible first | refine (inf_false _).mono ?_ | refine (inf_true _).mono ?_); rintro e w' ⟨rfl, rfl⟩))
        go_ret2
        exact ⟨by rw [HMF.out, HB.out]; rfl, 0, rfl⟩
      | true =>
        have hb : bigB (thouW x) = true := hg.symm
        have HB := Lib.hid hb
        clear hsm hg hb
        go_enter Tryd.func34, Tryd.ntmps34
        go_wp2_with (first | (go_at_call 37; (with_reducible refine (NA.out _).mono ?_); rintro e w' ⟨rfl, rfl⟩) | (go_at_call 54; (with_reducible first | refine (inf_false _).mono ?_ | refine (inf_true _).mono ?_); rintro e w' ⟨rfl, rfl⟩))
        go_ret2
        exact ⟨by rw [HMF.out, HB.out]; rfl, 0, rfl⟩
    | true =>
      have hb : bigB (thouW x) = true := by rw [← hg]; rfl
      have HB := Lib.hid hb
      clear hsm hg hb hg2
      go_enter Tryd.func34, Tryd.ntmps34
      go_wp2_with (first | (go_at_call 37; (with_reducible refine (NA.out _).mono ?_); rintro e w' ⟨rfl, rfl⟩) | (go_at_call 54; (with_reducible first | refine (inf_false _).mono ?_ | refine (inf_true _).mono ?_); rintro e w' ⟨rfl, rfl⟩))
      go_ret2
      exact ⟨by rw [HMF.out, HB.out]; rfl, 0, rfl⟩
theorem millsB_any (x : Nat) (n k : Int) (w : World) (hx : x < 18446744073709551616) : Calls Tryd.prog 35 #[.float .f64 x, .int .i64 n, .int .i64 k] w fun e w' => e = .returned (.bool ((millsF x).1 == n && (millsF x).2 == k)) ∧ ∃ m, w' = w.drewN m := by
  have MA := Lib.hid (mills_any x w hx)
  generalize hmf : millsF x = mf at *
  obtain ⟨p, q⟩ := mf
  have HMF := Lib.hid hmf
  clear hmf
  by_cases hp : p = n
  · have hp' : (p == n) = true := by simpa using hp
    rw [hp']
    clear hp
    go_enter Tryd.func35, Tryd.ntmps35
    go_wp2_with (first | (go_at_call 36; (with_reducible refine (MA.out).mono ?_); rintro e w' ⟨he, m, rfl⟩; rw [HMF.out] at he; subst he))
    go_ret
    exact ⟨by simp, m, rfl⟩
  · have hp' : (p == n) = false := by simpa using hp
    rw [hp']
    clear hp
    go_enter Tryd.func35, Tryd.ntmps35
    go_wp2_with (first | (go_at_call 36; (with_reducible refine (MA.out).mono ?_); rintro e w' ⟨he, m, rfl⟩; rw [HMF.out] at he; subst he))
    go_ret
    exact ⟨by simp, m, rfl⟩
end Go.Proofs.YtcbkgammlfjjoaaDoor
