/- floated, walked. -/
import Derived.Test.YtcbkgammlfjjoaaDoorFlW5
namespace Go.Proofs.YtcbkgammlfjjoaaDoor
set_option linter.unusedVariables false
set_option linter.unusedSimpArgs false
open Go.RowKit Go.Proofs.YtcbkgammlfjjoaaDoorW.PrintWords Go.Proofs.YtcbkgammlfjjoaaDoorW.PrintLast Go.Proofs.YtcbkgammlfjjoaaDoorW.PrintMore

/-- the floats that floated gives -/
def Fl (r : Nat) : Prop := r < 18446744073709551616 ∧ (FR .quo 0 0 r ∨ r = 9218868437227405312 ∨ r = 18442240474082181120 ∨ r = 0 ∨ r = 9223372036854775808 ∨
  ∃ q : Int, -576460752303423488 ≤ q ∧ q ≤ 576460752303423487 ∧ (r = floatOfInt .f64 q ∨ FR .quo 4607182418800017408 (floatOfInt .f64 q) r ∨ FR .quo (floatOfInt .f64 q) 4634204016564240384 r))
def FloatedP (w : World) (e : Ending) (w' : World) : Prop := ∃ r m, e = .returned (.float .f64 r) ∧ w' = w.drewN m ∧ Fl r
theorem foi_lt (q : Int) : floatOfInt .f64 q < 18446744073709551616 := Nat.lt_of_lt_of_le (Ieee.double.write_lt (.number (decide (q < 0)) q.natAbs 0)) (by decide)
theorem shr4 (n : Int) (h0 : -9223372036854775808 ≤ n) (h1 : n ≤ 9223372036854775807) : -576460752303423488 ≤ n / 16 ∧ n / 16 ≤ 576460752303423487 := by omega
theorem floated_any (n : Int) (w : World) (h0 : -9223372036854775808 ≤ n) (h1 : n ≤ 9223372036854775807) : Calls Tryd.prog 30 #[.int .i64 n] w (FloatedP w) := by
  have SH := Lib.hid (shr4 n h0 h1)
  obtain ⟨k, hk⟩ : ∃ k, bits .and .i64 n 15 = k := ⟨_, rfl⟩
  have F0 := run_fop (P := Tryd.prog) (op := .quo) rfl 42 0 0 w
  obtain ⟨r0, m0, f0, hr0⟩ := F0
  have f4 := fun w => run_float_arith (P := Tryd.prog) w .quo 42 .f64 13830554455654793216 9218868437227405312 9223372036854775808 (by kernel_rfl)
  obtain ⟨r6, m6, f6, hr6⟩ := run_fop (P := Tryd.prog) (op := .quo) rfl 42 4607182418800017408 (floatOfInt .f64 (n / 16)) w
  obtain ⟨r7, m7, f7, hr7⟩ := run_fop (P := Tryd.prog) (op := .quo) rfl 42 (floatOfInt .f64 (n / 16)) 4634204016564240384 w
  have H0 := Lib.hid hr0
  have H6 := Lib.hid hr6
  have H7 := Lib.hid hr7
  clear hr0 hr6 hr7
  by_cases h : k = 0
  · subst h
    go_enter Tryd.func30, Tryd.ntmps30
    go_wp2
    go_ret
    exact ⟨r0, m0, rfl, rfl, H0.out.1, Or.inl H0.out⟩
  by_cases h' : k = 1
  · subst h'
    go_enter Tryd.func30, Tryd.ntmps30
    go_wp2_with (first | (go_at_call 54; (with_reducible first | refine (inf_false _).mono ?_ | refine (inf_true _).mono ?_); rintro e w' ⟨rfl, rfl⟩))
    go_ret
    exact ⟨_, 0, rfl, rfl, by decide, Or.inr (Or.inl rfl)⟩
  by_cases h'' : k = 2
  · subst h''
    go_enter Tryd.func30, Tryd.ntmps30
    go_wp2_with (first | (go_at_call 54; (with_reducible first | refine (inf_false _).mono ?_ | refine (inf_true _).mono ?_); rintro e w' ⟨rfl, rfl⟩))
    go_ret
    exact ⟨_, 0, rfl, rfl, by decide, Or.inr (Or.inr (Or.inl rfl))⟩
  by_cases h3 : k = 3
  · subst h3
    go_enter Tryd.func30, Tryd.ntmps30
    go_wp2
    go_ret
    exact ⟨_, 0, rfl, rfl, by decide, Or.inr (Or.inr (Or.inr (Or.inl rfl)))⟩
  by_cases h4 : k = 4
  · subst h4
    go_enter Tryd.func30, Tryd.ntmps30
    go_wp2_with (first | (go_at_call 54; (with_reducible first | refine (inf_false _).mono ?_ | refine (inf_true _).mono ?_); rintro e w' ⟨rfl, rfl⟩))
    go_ret
    exact ⟨_, 0, rfl, rfl, by decide, Or.inr (Or.inr (Or.inr (Or.inr (Or.inl rfl))))⟩
  by_cases h5 : k = 5
  · subst h5
    go_enter Tryd.func30, Tryd.ntmps30
    go_wp2
    go_ret
    exact ⟨_, 0, rfl, rfl, foi_lt _, Or.inr (Or.inr (Or.inr (Or.inr (Or.inr ⟨n / 16, SH.out.1, SH.out.2, Or.inl rfl⟩))))⟩
  by_cases h6 : k = 6
  · subst h6
    go_enter Tryd.func30, Tryd.ntmps30
    go_wp2
    go_ret
    exact ⟨r6, m6, rfl, rfl, H6.out.1, Or.inr (Or.inr (Or.inr (Or.inr (Or.inr ⟨n / 16, SH.out.1, SH.out.2, Or.inr (Or.inl H6.out)⟩))))⟩
  · go_enter Tryd.func30, Tryd.ntmps30
    go_wp2
    go_ret
    exact ⟨r7, m7, rfl, rfl, H7.out.1, Or.inr (Or.inr (Or.inr (Or.inr (Or.inr ⟨n / 16, SH.out.1, SH.out.2, Or.inr (Or.inr H7.out)⟩))))⟩
end Go.Proofs.YtcbkgammlfjjoaaDoor
