/- StatsMills, walked. -/
import Derived.Test.YtcbkgammlfjjoaaDoorR2
namespace Go.Proofs.YtcbkgammlfjjoaaDoor
set_option linter.unusedVariables false
set_option linter.unusedSimpArgs false
open Go.RowKit Go.Proofs.YtcbkgammlfjjoaaDoorW.PrintWords Go.Proofs.YtcbkgammlfjjoaaDoorW.PrintLast Go.Proofs.YtcbkgammlfjjoaaDoorW.PrintMore

theorem millsF_kind (x : Nat) : 0 ≤ (millsF x).2 ∧ (millsF x).2 ≤ 4 := by
  unfold millsF
  repeat' split
  all_goals simp
theorem mills_order (x y : Nat) : (millsF x).2 + (millsF y).2 > 0 ∨ ordF x y > 0 ∨ (millsF x).1 ≤ (millsF y).1 := by
  have h1 := millsF_kind x
  have h2 := millsF_kind y
  by_cases h : (millsF x).2 + (millsF y).2 > 0
  · exact Or.inl h
  · right
    by_cases ho : ordF x y > 0
    · exact Or.inl ho
    · right
      refine millsF_mono (by omega) (by omega) (fun hx hy => ?_)
      rw [ordF_num hx hy] at ho
      have := cmpI_le (2 * ky x + signF x) (2 * ky y + signF y)
      have := signF_01 x
      have := signF_01 y
      omega
theorem mills_below (x : Nat) (w : World) (hx : x < 18446744073709551616) : Calls Tryd.prog 36 #[.float .f64 x] w fun e w' => e = .returned (.tuple #[.int .i64 (millsF x).1, .int .i64 (millsF x).2]) ∧ Below w.heap.size w w' := to_below_n (mills_any x w hx)
theorem millsR_below (x : Nat) (w : World) (hx : x < 18446744073709551616) : Calls Tryd.prog 34 #[.float .f64 x] w fun e w' => e = .returned (.tuple #[.int .i64 (millsF x).1, .int .i64 (millsF x).2]) ∧ Below w.heap.size w w' := to_below_n (millsR_any x w hx)
set_option maxRecDepth 100000 in
set_option maxHeartbeats 4000000 in
theorem mills_row (a b : Int) (w : World) (wa : (Lit.int .i64 a).wf = true) (wb : (Lit.int .i64 b).wf = true) :
    Calls Tryd.prog 10 #[.int .i64 a, .int .i64 b] w fun e w' => e = .returned (.bool true) ∧ Below w.heap.size w w' := by
  have FA := Lib.hid (fun W => floated_any a W (wf64 wa).1 (wf64 wa).2)
  have FB := Lib.hid (fun W => floated_any b W (wf64 wb).1 (wf64 wb).2)
  clear wa wb
  go_enter Tryd.func10, Tryd.ntmps10
  go_wp2_with fail
  refine (FA.out _).mono ?_
  rintro e w' ⟨x, m1, rfl, rfl, hx⟩
  have HX := Lib.hid hx
  clear hx
  go_wp2_with fail
  refine (FB.out _).mono ?_
  rintro e w' ⟨y, m2, rfl, rfl, hy⟩
  have HY := Lib.hid hy
  clear hy
  have O1 := fun W => order_any x y W HX.out.1 HY.out.1
  have MX := fun W => mills_below x W HX.out.1
  have MY := fun W => mills_below y W HY.out.1
  have RX := fun W => millsR_below x W HX.out.1
  have RY := fun W => millsR_below y W HY.out.1
  have BX := fun W => to_below_n (millsB_any x (millsF x).1 (millsF x).2 W HX.out.1)
  have BY := fun W => to_below_n (millsB_any y (millsF y).1 (millsF y).2 W HY.out.1)
  have e1 : ((millsF x).1 == (millsF x).1 && (millsF x).2 == (millsF x).2) = true := by simp
  have e2 : ((millsF y).1 == (millsF y).1 && (millsF y).2 == (millsF y).2) = true := by simp
  rw [e1] at BX
  rw [e2] at BY
  clear e1 e2
  have hk := millsF_kind x
  have hk2 := millsF_kind y
  have hm := mills_order x y
  generalize millsF x = mx at *
  generalize millsF y = my at *
  obtain ⟨m, j⟩ := mx
  obtain ⟨n, k⟩ := my
  simp only at MX MY RX RY BX BY hk hk2 hm
  have ho := ordF_bd x y
  generalize ordF x y = o at *
  have HO := Lib.hid O1
  have HMX := Lib.hid MX
  have HMY := Lib.hid MY
  have HRX := Lib.hid RX
  have HRY := Lib.hid RY
  have HBX := Lib.hid BX
  have HBY := Lib.hid BY
  clear O1 MX MY RX RY BX BY
  have hW : Below w.heap.size w ((w.drewN m1).drewN m2) := pw_below_drewN (pw_below_drewN (Below.refl _ _) _) _
  obtain ⟨w4, hw4⟩ : ∃ w4, (w.drewN m1).drewN m2 = w4 := ⟨_, rfl⟩
  rw [hw4]
  rw [hw4] at hW
  clear hw4
  have HW := Lib.hid hW
  clear hW HX HY FA FB
  have hk0 := hk.1
  have hk1 := hk.2
  have hk20 := hk2.1
  have hk21 := hk2.2
  clear hk hk2 ho
  by_cases h1 : j + k > 0
  · clear hm
    go_wp2_with (first
      | (go_at_call 34; (with_reducible first | refine (HRX.out _).mono ?_ | refine (HRY.out _).mono ?_); rintro e w' ⟨rfl, hb⟩; have hW := Lib.hid (HW.out.trans (hb.mono HW.out.size)); clear hb HW; have HW := hW; clear hW)
      | (go_at_call 35; (with_reducible first | refine (HBX.out _).mono ?_ | refine (HBY.out _).mono ?_); rintro e w' ⟨rfl, hb⟩; have hW := Lib.hid (HW.out.trans (hb.mono HW.out.size)); clear hb HW; have HW := hW; clear hW)
      | (go_at_call 36; (with_reducible first | refine (HMX.out _).mono ?_ | refine (HMY.out _).mono ?_); rintro e w' ⟨rfl, hb⟩; have hW := Lib.hid (HW.out.trans (hb.mono HW.out.size)); clear hb HW; have HW := hW; clear hW)
      | (go_at_call 32; (with_reducible refine (HO.out _).mono ?_); rintro e w' ⟨rfl, hb⟩; have hW := Lib.hid (HW.out.trans (hb.mono HW.out.size)); clear hb HW; have HW := hW; clear hW)
      | (go_at_call 27; (with_reducible refine (awakeS_any _).mono ?_); rintro e w' ⟨rfl, hb⟩; have hW := Lib.hid (HW.out.trans (hb.mono HW.out.size)); clear hb HW; have HW := hW; clear hW))
    go_ret
    exact ⟨rfl, HW.out⟩
  · by_cases h2 : o > 0
    · clear hm
      go_wp2_with (first
        | (go_at_call 34; (with_reducible first | refine (HRX.out _).mono ?_ | refine (HRY.out _).mono ?_); rintro e w' ⟨rfl, hb⟩; have hW := Lib.hid (HW.out.trans (hb.mono HW.out.size)); clear hb HW; have HW := hW; clear hW)
        | (go_at_call 35; (with_reducible first | refine (HBX.out _).mono ?_ | refine (HBY.out _).mono ?_); rintro e w' ⟨rfl, hb⟩; have hW := Lib.hid (HW.out.trans (hb.mono HW.out.size)); clear hb HW; have HW := hW; clear hW)
        | (go_at_call 36; (with_reducible first | refine (HMX.out _).mono ?_ | refine (HMY.out _).mono ?_); rintro e w' ⟨rfl, hb⟩; have hW := Lib.hid (HW.out.trans (hb.mono HW.out.size)); clear hb HW; have HW := hW; clear hW)
        | (go_at_call 32; (with_reducible refine (HO.out _).mono ?_); rintro e w' ⟨rfl, hb⟩; have hW := Lib.hid (HW.out.trans (hb.mono HW.out.size)); clear hb HW; have HW := hW; clear hW)
        | (go_at_call 27; (with_reducible refine (awakeS_any _).mono ?_); rintro e w' ⟨rfl, hb⟩; have hW := Lib.hid (HW.out.trans (hb.mono HW.out.size)); clear hb HW; have HW := hW; clear hW))
      go_ret
      exact ⟨rfl, HW.out⟩
    · have h3 : m ≤ n := by omega
      clear hm
      go_wp2_with (first
        | (go_at_call 34; (with_reducible first | refine (HRX.out _).mono ?_ | refine (HRY.out _).mono ?_); rintro e w' ⟨rfl, hb⟩; have hW := Lib.hid (HW.out.trans (hb.mono HW.out.size)); clear hb HW; have HW := hW; clear hW)
        | (go_at_call 35; (with_reducible first | refine (HBX.out _).mono ?_ | refine (HBY.out _).mono ?_); rintro e w' ⟨rfl, hb⟩; have hW := Lib.hid (HW.out.trans (hb.mono HW.out.size)); clear hb HW; have HW := hW; clear hW)
        | (go_at_call 36; (with_reducible first | refine (HMX.out _).mono ?_ | refine (HMY.out _).mono ?_); rintro e w' ⟨rfl, hb⟩; have hW := Lib.hid (HW.out.trans (hb.mono HW.out.size)); clear hb HW; have HW := hW; clear hW)
        | (go_at_call 32; (with_reducible refine (HO.out _).mono ?_); rintro e w' ⟨rfl, hb⟩; have hW := Lib.hid (HW.out.trans (hb.mono HW.out.size)); clear hb HW; have HW := hW; clear hW)
        | (go_at_call 27; (with_reducible refine (awakeS_any _).mono ?_); rintro e w' ⟨rfl, hb⟩; have hW := Lib.hid (HW.out.trans (hb.mono HW.out.size)); clear hb HW; have HW := hW; clear hW))
      go_ret
      exact ⟨rfl, HW.out⟩
end Go.Proofs.YtcbkgammlfjjoaaDoor
