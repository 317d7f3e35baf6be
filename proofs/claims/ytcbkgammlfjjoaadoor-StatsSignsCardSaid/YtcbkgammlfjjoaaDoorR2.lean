/- StatsOrders, walked. -/
import Derived.Test.YtcbkgammlfjjoaaDoorR1
namespace Go.Proofs.YtcbkgammlfjjoaaDoor
set_option linter.unusedVariables false
set_option linter.unusedSimpArgs false
open Go.RowKit Go.Proofs.YtcbkgammlfjjoaaDoorW.PrintWords Go.Proofs.YtcbkgammlfjjoaaDoorW.PrintLast Go.Proofs.YtcbkgammlfjjoaaDoorW.PrintMore

theorem signF_01 (a : Nat) : signF a = 0 ∨ signF a = 1 := by unfold signF; split <;> omega
theorem ordF_anti (a b : Nat) : ordF b a = 0 - ordF a b := by
  have := signF_01 a
  have := signF_01 b
  unfold ordF cmpI
  cases nanB a <;> cases nanB b <;> simp
  repeat' split
  all_goals omega
theorem ordF_bd (a b : Nat) : -1 ≤ ordF a b ∧ ordF a b ≤ 1 := by
  unfold ordF cmpI
  repeat' split
  all_goals omega
theorem ordF_zero (a b : Nat) : (ordF a b == 0) = sameF a b := by
  rw [Bool.eq_iff_iff, beq_iff_eq]
  unfold ordF cmpI sameF signF
  cases nanB a <;> cases nanB b <;> simp
  cases minusF a <;> cases minusF b <;> simp
  all_goals
    repeat' split
    all_goals omega
theorem cmpI_le (x y : Int) : cmpI x y ≤ 0 ↔ x ≤ y := by unfold cmpI; repeat' split <;> omega
theorem cmpI_ge (x y : Int) : cmpI x y ≥ 0 ↔ y ≤ x := by unfold cmpI; repeat' split <;> omega
theorem ordF_num {a b : Nat} (ha : nanB a = false) (hb : nanB b = false) : ordF a b = cmpI (2 * ky a + signF a) (2 * ky b + signF b) := by
  have := signF_01 a
  have := signF_01 b
  unfold ordF cmpI
  simp only [ha, hb, Bool.false_eq_true, if_false]
  repeat' split
  all_goals omega
theorem ordF_trans (a b c : Nat) : (ordF a b > 0 ∨ ordF b c > 0 ∨ ordF a c ≤ 0) ∧ (ordF a b < 0 ∨ ordF b c < 0 ∨ ordF a c ≥ 0) := by
  cases ha : nanB a
  · cases hb : nanB b
    · cases hc : nanB c
      · rw [ordF_num ha hb, ordF_num hb hc, ordF_num ha hc]
        have := cmpI_le (2 * ky a + signF a) (2 * ky b + signF b)
        have := cmpI_le (2 * ky b + signF b) (2 * ky c + signF c)
        have := cmpI_le (2 * ky a + signF a) (2 * ky c + signF c)
        have := cmpI_ge (2 * ky a + signF a) (2 * ky b + signF b)
        have := cmpI_ge (2 * ky b + signF b) (2 * ky c + signF c)
        have := cmpI_ge (2 * ky a + signF a) (2 * ky c + signF c)
        omega
      · have e1 : ordF a c = -1 := by simp [ordF, ha, hc]
        have e2 : ordF b c = -1 := by simp [ordF, hb, hc]
        omega
    · have e1 : ordF a b = -1 := by simp [ordF, ha, hb]
      cases hc : nanB c
      · have e2 : ordF b c = 1 := by simp [ordF, hb, hc]
        omega
      · have e2 : ordF a c = -1 := by simp [ordF, ha, hc]
        omega
  · cases hb : nanB b
    · have e1 : ordF a b = 1 := by simp [ordF, ha, hb]
      cases hc : nanB c
      · have e2 : ordF a c = 1 := by simp [ordF, ha, hc]
        omega
      · have e2 : ordF a c = 0 := by simp [ordF, ha, hc]
        omega
    · have e1 : ordF a b = 0 := by simp [ordF, ha, hb]
      cases hc : nanB c
      · have e2 : ordF a c = 1 := by simp [ordF, ha, hc]
        have e3 : ordF b c = 1 := by simp [ordF, hb, hc]
        omega
      · have e2 : ordF a c = 0 := by simp [ordF, ha, hc]
        omega
attribute [local irreducible] wpQuiet
set_option maxRecDepth 100000 in
set_option maxHeartbeats 4000000 in
theorem orders_any (a b c : Int) (w : World) (wa : (Lit.int .i64 a).wf = true) (wb : (Lit.int .i64 b).wf = true) (wc : (Lit.int .i64 c).wf = true) :
    Calls Tryd.prog 9 #[.int .i64 a, .int .i64 b, .int .i64 c] w fun e w' => e = .returned (.bool true) ∧ Below w.heap.size w w' := by
  have FA := Lib.hid (fun W => floated_any a W (wf64 wa).1 (wf64 wa).2)
  have FB := Lib.hid (fun W => floated_any b W (wf64 wb).1 (wf64 wb).2)
  have FC := Lib.hid (fun W => floated_any c W (wf64 wc).1 (wf64 wc).2)
  clear wa wb wc
  go_enter Tryd.func9, Tryd.ntmps9
  go_wp2_with fail
  refine (FA.out _).mono ?_
  rintro e w' ⟨x, m1, rfl, rfl, hx⟩
  have HX := Lib.hid hx
  clear hx
  go_wp2_with fail
  refine (FB.out _).mono ?_
  rintro e w' ⟨y, m2, rfl, rfl, hy⟩
  have HY := Lib.hid hy
  clear hy
  go_wp2_with fail
  refine (FC.out _).mono ?_
  rintro e w' ⟨z, m3, rfl, rfl, hz⟩
  have HZ := Lib.hid hz
  clear hz
  have O1 := fun W => order_any x y W HX.out.1 HY.out.1
  have O2 := fun W => order_any y z W HY.out.1 HZ.out.1
  have O3 := fun W => order_any x z W HX.out.1 HZ.out.1
  have O4 := fun W => order_any y x W HY.out.1 HX.out.1
  have D1 := fun W => to_below (ordR_any x y W HX.out.1 HY.out.1)
  have D2 := fun W => to_below (ordR_any y z W HY.out.1 HZ.out.1)
  have S1 := fun W => to_below (same_any x y W HX.out.1 HY.out.1)
  rw [← ordF_zero] at S1
  rw [ordF_anti x y] at O4
  have hp := ordF_bd x y
  have hq := ordF_bd y z
  have hr := ordF_bd x z
  have ht := ordF_trans x y z
  generalize ordF x y = p at *
  generalize ordF y z = q at *
  generalize ordF x z = r at *
  have hW : Below w.heap.size w ((w.drewN (m1 + m2)).drewN m3) := pw_below_drewN (pw_below_drewN (Below.refl _ _) _) _
  obtain ⟨w4, hw4⟩ : ∃ w4, (w.drewN (m1 + m2)).drewN m3 = w4 := ⟨_, rfl⟩
  rw [hw4]
  rw [hw4] at hW
  clear hw4
  have HW := Lib.hid hW
  clear hW HX HY HZ FA FB FC
  have hp' : p = -1 ∨ p = 0 ∨ p = 1 := by omega
  have hq' : q = -1 ∨ q = 0 ∨ q = 1 := by omega
  have hr' : r = -1 ∨ r = 0 ∨ r = 1 := by omega
  clear hp hq hr
  rcases hp' with rfl | rfl | rfl <;> rcases hq' with rfl | rfl | rfl <;> rcases hr' with rfl | rfl | rfl
  all_goals first | (exfalso; omega) | clear ht
  all_goals
    have HO1 := Lib.hid O1
    have HO2 := Lib.hid O2
    have HO3 := Lib.hid O3
    have HO4 := Lib.hid O4
    have HD1 := Lib.hid D1
    have HD2 := Lib.hid D2
    have HS1 := Lib.hid S1
    clear O1 O2 O3 O4 D1 D2 S1
    go_wp2_with (first
      | (go_at_call 32; (with_reducible first | refine (HO1.out _).mono ?_ | refine (HO2.out _).mono ?_ | refine (HO3.out _).mono ?_ | refine (HO4.out _).mono ?_); rintro e w' ⟨rfl, hb⟩; have hW := Lib.hid (HW.out.trans (hb.mono HW.out.size)); clear hb HW; have HW := hW; clear hW)
      | (go_at_call 33; (with_reducible first | refine (HD1.out _).mono ?_ | refine (HD2.out _).mono ?_); rintro e w' ⟨rfl, hb⟩; have hW := Lib.hid (HW.out.trans (hb.mono HW.out.size)); clear hb HW; have HW := hW; clear hW)
      | (go_at_call 29; (with_reducible refine (HS1.out _).mono ?_); rintro e w' ⟨rfl, hb⟩; have hW := Lib.hid (HW.out.trans (hb.mono HW.out.size)); clear hb HW; have HW := hW; clear hW)
      | (go_at_call 27; (with_reducible refine (awakeS_any _).mono ?_); rintro e w' ⟨rfl, hb⟩; have hW := Lib.hid (HW.out.trans (hb.mono HW.out.size)); clear hb HW; have HW := hW; clear hW))
    go_ret
    exact ⟨rfl, HW.out⟩
end Go.Proofs.YtcbkgammlfjjoaaDoor
