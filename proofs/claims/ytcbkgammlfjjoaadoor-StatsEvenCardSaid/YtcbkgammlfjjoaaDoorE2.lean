/- The stats seat's awake, walked. -/
import Derived.Test.YtcbkgammlfjjoaaDoorE1
namespace Go.Proofs.YtcbkgammlfjjoaaDoor
set_option linter.unusedVariables false
set_option linter.unusedSimpArgs false
open Go.RowKit Go.Proofs.YtcbkgammlfjjoaaDoorW.PrintWords Go.Proofs.YtcbkgammlfjjoaaDoorW.PrintLast Go.Proofs.YtcbkgammlfjjoaaDoorW.PrintMore

theorem to_below {P : Program} {f : FuncId} {args : Array Value} {w : World} {v : Value} (h : Calls P f args w fun e w' => e = .returned v ∧ w = w') : Calls P f args w fun e w' => e = .returned v ∧ Below w.heap.size w w' :=
  h.mono fun e w' ⟨h1, h2⟩ => ⟨h1, h2 ▸ Below.refl _ _⟩
theorem to_below_n {P : Program} {f : FuncId} {args : Array Value} {w : World} {v : Value} (h : Calls P f args w fun e w' => e = .returned v ∧ ∃ m, w' = w.drewN m) : Calls P f args w fun e w' => e = .returned v ∧ Below w.heap.size w w' :=
  h.mono fun e w' ⟨h1, m, h2⟩ => ⟨h1, h2 ▸ pw_below_drewN (Below.refl _ _) m⟩
theorem millsF_half : millsF 4602678819172646912 = (500, 0) := by
  have hr : Ieee.double.read 4602678819172646912 = .number false 4503599627370496 (-53) := by kernel_rfl
  have ht : thouW 4602678819172646912 = 4647503709213818880 := by kernel_rfl
  have hr2 : Ieee.double.read 4647503709213818880 = .number false 8796093022208000 (-44) := by kernel_rfl
  have hk : ky 4647503709213818880 = 500 * unitI := by
    show dky (Ieee.double.read 4647503709213818880) = _
    rw [hr2]
    unfold unitI
    simp only [dky]
    rw [show ((-44 : Int) + 1074).toNat = 1030 from rfl, show (2 : Int) ^ 1074 = 2 ^ 1030 * 2 ^ 44 from by rw [← Int.pow_add]]
    simp only [Bool.false_eq_true, if_false, Int.one_mul]
    generalize (2 : Int) ^ 1030 = u
    omega
  have hu := unitI_pos
  have hb : bigB 4647503709213818880 = false := by
    unfold bigB
    rw [hk, decide_eq_false_iff_not]
    generalize unitI = u at *
    omega
  unfold millsF
  rw [nan_number hr, if_neg (by decide), if_neg (by decide), if_neg (by decide), ht, hb, hk, if_neg (by decide), Int.mul_tdiv_cancel _ (by omega)]
theorem ordF_qh : ordF 4598175219545276416 4602678819172646912 = -1 := by
  have n1 : nanB 4598175219545276416 = false := by kernel_rfl
  have n2 : nanB 4602678819172646912 = false := by kernel_rfl
  have h : ltB 4598175219545276416 4602678819172646912 = true := by rw [← order_lt]; kernel_rfl
  have hk : ky 4598175219545276416 < ky 4602678819172646912 := by
    unfold ltB at h
    rw [n1, n2] at h
    simpa using h
  unfold ordF
  rw [n1, n2, if_neg (by decide), if_neg (by decide), if_pos hk]
theorem millsF_nan {x : Nat} (h : nanB x = true) : millsF x = (0, 1) := by unfold millsF; rw [if_pos h]
attribute [local irreducible] wpQuiet
set_option maxRecDepth 100000 in
set_option maxHeartbeats 4000000 in
theorem awakeS_any (w : World) : Calls Tryd.prog 27 #[] w fun e w' => e = .returned (.bool true) ∧ Below w.heap.size w w' := by
  have hsf := store_float
  go_enter Tryd.func27, Tryd.ntmps27
  go_wp2_with fail
  refine (of_empty w).mono ?_
  rintro e w1 ⟨r, m, s, rfl, hb, hr, hm, hs⟩
  have HB := Lib.hid hb
  clear hb
  have N1 := fun W => to_below (none_any r W)
  have N2 := fun W => to_below (none_any m W)
  have M1 := fun W => to_below_n (millsB_any m 0 1 W hm.2)
  have M2 := fun W => to_below_n (millsB_any 4602678819172646912 500 0 W (by decide))
  have OA := fun W => order_any 4598175219545276416 4602678819172646912 W (by decide) (by decide)
  rw [hr.1] at N1
  rw [hm.1] at N2
  rw [millsF_nan hm.1] at M1
  rw [millsF_half] at M2
  rw [ordF_qh] at OA
  have I1 := fun W => to_below (inf_false W)
  have I2 := fun W => to_below (inf_true W)
  have HN1 := Lib.hid N1
  have HN2 := Lib.hid N2
  have HM1 := Lib.hid M1
  have HM2 := Lib.hid M2
  have HOA := Lib.hid OA
  have HI1 := Lib.hid I1
  have HI2 := Lib.hid I2
  clear N1 N2 M1 M2 OA I1 I2 hr hm hs
  go_wp2_with fail
  obtain ⟨W, hW⟩ : ∃ W, (w1.alloc (.cells #[.int .i64 0, .float .f64 r, .float .f64 m, .float .f64 s, .float .f64 9218868437227405312, .float .f64 18442240474082181120] 44)) = W := ⟨_, rfl⟩
  rw [hW]
  have hb1 : Below w.heap.size w W := by rw [← hW]; exact below_alloc HB.out _
  have c1 : W.cell? ⟨w1.heap.size, 1, none⟩ = some (.float .f64 r) := by rw [← hW]; simp [go_sem]
  have c2 : W.cell? ⟨w1.heap.size, 2, none⟩ = some (.float .f64 m) := by rw [← hW]; simp [go_sem]
  have c4 : W.cell? ⟨w1.heap.size, 4, none⟩ = some (.float .f64 9218868437227405312) := by rw [← hW]; simp [go_sem]
  have c5 : W.cell? ⟨w1.heap.size, 5, none⟩ = some (.float .f64 18442240474082181120) := by rw [← hW]; simp [go_sem]
  clear hW
  have f1 : ∀ p : BelowBy W, p.W.cell? ⟨w1.heap.size, 1, none⟩ = some (.float .f64 r) := fun p => p.cell c1
  have f2 : ∀ p : BelowBy W, p.W.cell? ⟨w1.heap.size, 2, none⟩ = some (.float .f64 m) := fun p => p.cell c2
  have f4 : ∀ p : BelowBy W, p.W.cell? ⟨w1.heap.size, 4, none⟩ = some (.float .f64 9218868437227405312) := fun p => p.cell c4
  have f5 : ∀ p : BelowBy W, p.W.cell? ⟨w1.heap.size, 5, none⟩ = some (.float .f64 18442240474082181120) := fun p => p.cell c5
  clear c1 c2 c4 c5
  have g1 : (FloatKind.f64.format.order 9218868437227405312 9218868437227405312 == some .eq) = true := by kernel_rfl
  have g2 : (FloatKind.f64.format.order 18442240474082181120 18442240474082181120 == some .eq) = true := by kernel_rfl
  have HB1 := Lib.hid hb1
  clear hb1 HB
  refine region_below (by kernel_rfl) (by kernel_rfl) ?_
  repeat (quiet_step (with_reducible first | exact call_below _ (HN1.out _) | exact call_below _ (HN2.out _) | exact call_below _ (HM1.out _) | exact call_below _ (HM2.out _) | exact call_below _ (HOA.out _) | exact call_below _ (HI1.out _) | exact call_below _ (HI2.out _)))
  refine wpQuiet_nil ?_
  rintro _ ⟨p, rfl⟩
  go_wp2
  go_ret
  exact ⟨rfl, HB1.out.trans (p.h.mono HB1.out.size)⟩
end Go.Proofs.YtcbkgammlfjjoaaDoor
