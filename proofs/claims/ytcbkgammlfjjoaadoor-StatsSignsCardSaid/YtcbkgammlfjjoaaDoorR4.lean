/- StatsSigns, walked. -/
import Derived.Test.YtcbkgammlfjjoaaDoorR2
import Derived.Test.YtcbkgammlfjjoaaDoorFlD
namespace Go.Proofs.YtcbkgammlfjjoaaDoor
set_option linter.unusedVariables false
set_option linter.unusedSimpArgs false
open Go.RowKit Go.Proofs.YtcbkgammlfjjoaaDoorW.PrintWords Go.Proofs.YtcbkgammlfjjoaaDoorW.PrintLast Go.Proofs.YtcbkgammlfjjoaaDoorW.PrintMore

theorem fr_div {x y r : Nat} (h : FR .quo x y r) : (Ieee.double.div x y = some r) ∨ (Ieee.double.div x y = none ∧ nanB r = true) := h.2
theorem fr_mul {x y r : Nat} (h : FR .mul x y r) : (Ieee.double.mul x y = some r) ∨ (Ieee.double.mul x y = none ∧ nanB r = true) := h.2
theorem fl_good {x : Nat} (h : Fl x) : Good x := by
  rcases h.2 with h0 | rfl | rfl | rfl | rfl | ⟨q, hq0, hq1, h1 | h1 | h1⟩
  · exact Or.inl (fr_00 h0).1
  · exact Or.inr (Or.inl ⟨false, by kernel_rfl⟩)
  · exact Or.inr (Or.inl ⟨true, by kernel_rfl⟩)
  · exact Or.inr (Or.inr (Or.inl ⟨false, by kernel_rfl⟩))
  · exact Or.inr (Or.inr (Or.inl ⟨true, by kernel_rfl⟩))
  · subst h1
    by_cases hz : q = 0
    · subst hz
      rw [foi_zero]
      exact Or.inr (Or.inr (Or.inl ⟨false, by kernel_rfl⟩))
    · obtain ⟨s, n, i, e, h2, h3, h4⟩ := read_foi hz hq0 hq1
      exact Or.inr (Or.inr (Or.inr ⟨s, n, i, e, h2, by omega⟩))
  · by_cases hz : q = 0
    · subst hz
      rw [foi_zero] at h1
      have hd : Ieee.double.div 4607182418800017408 0 = some 9218868437227405312 := by kernel_rfl
      rcases fr_div h1 with h2 | ⟨h2, _⟩
      · rw [hd] at h2
        injection h2 with h2
        subst h2
        exact Or.inr (Or.inl ⟨false, by kernel_rfl⟩)
      · rw [hd] at h2; cases h2
    · obtain ⟨s, n, i, e, h2, h3, h4⟩ := read_foi hz hq0 hq1
      rcases fr_div h1 with h5 | ⟨_, h5⟩
      · exact good_div (show Ieee.double.read 4607182418800017408 = .number false 4503599627370496 (-52) from by kernel_rfl) e (by decide) h2 (by omega) (by omega) h5
      · exact Or.inl h5
  · by_cases hz : q = 0
    · subst hz
      rw [foi_zero] at h1
      have hd : Ieee.double.div 0 4634204016564240384 = some 0 := by kernel_rfl
      rcases fr_div h1 with h2 | ⟨h2, _⟩
      · rw [hd] at h2
        injection h2 with h2
        subst h2
        exact Or.inr (Or.inr (Or.inl ⟨false, by kernel_rfl⟩))
      · rw [hd] at h2; cases h2
    · obtain ⟨s, n, i, e, h2, h3, h4⟩ := read_foi hz hq0 hq1
      rcases fr_div h1 with h5 | ⟨_, h5⟩
      · exact good_div e (show Ieee.double.read 4634204016564240384 = .number false 4503599627370496 (-46) from by kernel_rfl) h2 (by decide) (by omega) (by omega) h5
      · exact Or.inl h5
theorem div_nan_l {x y : Nat} (h : nanB x = true ∨ nanB y = true) : Ieee.double.div x y = none := by
  unfold nanB at h
  unfold Ieee.Format.div
  generalize Ieee.double.read x = X at h
  generalize Ieee.double.read y = Y at h
  rcases h with h | h
  · cases X <;> first | (cases h; done) | (cases Y <;> rfl)
  · cases Y <;> first | (cases h; done) | (cases X <;> rfl)
theorem mul_nan_r {x y : Nat} (h : nanB y = true) : Ieee.double.mul x y = none := by
  unfold nanB at h
  unfold Ieee.Format.mul
  generalize Ieee.double.read x = X
  generalize Ieee.double.read y = Y at h
  cases Y <;> first | (cases h; done) | (cases X <;> rfl)
theorem ordF_self (p : Nat) : ordF p p = 0 := by unfold ordF cmpI; cases nanB p <;> simp
structure SignsOk (p q r s : Nat) : Prop where
  fn : nanB p = true → nanB q = true ∧ nanB r = true ∧ nanB s = true
  fq : nanB p = false → sameF q (negW p) = true
  fr : nanB p = false → sameF r p = true
  fs : nanB p = false → sameF s p = true
  fo : nanB p = false → ordF p r = 0
theorem signs_ok {x y X Y p q r s : Nat} (hx : Fl x) (hy : Fl y) (hX : FR .mul 4611686018427387904 x X) (hY : FR .mul 4611686018427387904 y Y)
    (hp : FR .quo x y p) (hq : FR .quo (negW x) y q) (hr : FR .quo (negW x) (negW y) r) (hs : FR .quo X Y s) : SignsOk p q r s := by
  have dq := div_neg y hx.1
  have dr : Ieee.double.div (negW x) (negW y) = (Ieee.double.div x y).map fun d => negW (negW d) := by
    rw [div_neg2 _ hy.1, dq, Option.map_map]
    rfl
  cases hd : Ieee.double.div x y with
  | none =>
    rw [hd] at dq dr
    have ep : nanB p = true := by
      rcases fr_div hp with h | ⟨_, h⟩
      · rw [hd] at h; cases h
      · exact h
    have eq : nanB q = true := by
      rcases fr_div hq with h | ⟨_, h⟩
      · rw [dq] at h; cases h
      · exact h
    have er : nanB r = true := by
      rcases fr_div hr with h | ⟨_, h⟩
      · rw [dr] at h; cases h
      · exact h
    have ds : Ieee.double.div X Y = none := by
      cases nx : nanB x with
      | true =>
        refine div_nan_l (Or.inl ?_)
        rcases fr_mul hX with h | ⟨_, h⟩
        · rw [mul_nan_r nx] at h; cases h
        · exact h
      | false =>
        cases ny : nanB y with
        | true =>
          refine div_nan_l (Or.inr ?_)
          rcases fr_mul hY with h | ⟨_, h⟩
          · rw [mul_nan_r ny] at h; cases h
          · exact h
        | false =>
          obtain ⟨X', eX, _⟩ := dbl_div_l (fl_good hx) nx
          obtain ⟨Y', eY, _⟩ := dbl_div_l (fl_good hy) ny
          rcases fr_mul hX with h | ⟨h, _⟩
          · rcases fr_mul hY with h' | ⟨h', _⟩
            · rw [dbl_div (fl_good hx) (fl_good hy) nx ny h h']; exact hd
            · exact absurd (eY.symm.trans h') (by simp)
          · exact absurd (eX.symm.trans h) (by simp)
    have es : nanB s = true := by
      rcases fr_div hs with h | ⟨_, h⟩
      · rw [ds] at h; cases h
      · exact h
    exact ⟨fun _ => ⟨eq, er, es⟩, fun h => absurd (ep.symm.trans h) (by decide), fun h => absurd (ep.symm.trans h) (by decide), fun h => absurd (ep.symm.trans h) (by decide), fun h => absurd (ep.symm.trans h) (by decide)⟩
  | some d =>
    rw [hd] at dq dr
    have nx : nanB x = false := by
      cases h : nanB x with
      | true => rw [div_nan_l (Or.inl h)] at hd; cases hd
      | false => rfl
    have ny : nanB y = false := by
      cases h : nanB y with
      | true => rw [div_nan_l (Or.inr h)] at hd; cases hd
      | false => rfl
    have dlt : d < 18446744073709551616 := Ieee.double.div_lt hd
    have ep : p = d := by
      rcases fr_div hp with h | ⟨h, _⟩
      · rw [hd] at h; injection h with h; exact h.symm
      · rw [hd] at h; cases h
    have eq : q = negW d := by
      rcases fr_div hq with h | ⟨h, _⟩
      · rw [dq] at h; injection h with h; exact h.symm
      · rw [dq] at h; cases h
    have er : r = d := by
      rcases fr_div hr with h | ⟨h, _⟩
      · rw [dr] at h; injection h with h; rw [← h]; exact negW_negW dlt
      · rw [dr] at h; cases h
    obtain ⟨X', eX, _⟩ := dbl_div_l (fl_good hx) nx
    obtain ⟨Y', eY, _⟩ := dbl_div_l (fl_good hy) ny
    have ds : Ieee.double.div X Y = some d := by
      rcases fr_mul hX with h | ⟨h, _⟩
      · rcases fr_mul hY with h' | ⟨h', _⟩
        · rw [dbl_div (fl_good hx) (fl_good hy) nx ny h h']; exact hd
        · exact absurd (eY.symm.trans h') (by simp)
      · exact absurd (eX.symm.trans h) (by simp)
    have es : s = d := by
      rcases fr_div hs with h | ⟨h, _⟩
      · rw [ds] at h; injection h with h; exact h.symm
      · rw [ds] at h; cases h
    have hn := div_not_nan hd
    subst ep eq er es
    refine ⟨fun h => absurd (hn.symm.trans h) (by decide), fun _ => sameF_self _, fun _ => sameF_self _, fun _ => sameF_self _, fun _ => ordF_self _⟩
theorem none_below (a : Nat) (w : World) : Calls Tryd.prog 37 #[.float .f64 a] w fun e w' => e = .returned (.bool (nanB a)) ∧ Below w.heap.size w w' := to_below (none_any a w)
set_option maxRecDepth 100000 in
set_option maxHeartbeats 4000000 in
theorem signs_row (a b : Int) (w : World) (wa : (Lit.int .i64 a).wf = true) (wb : (Lit.int .i64 b).wf = true) :
    Calls Tryd.prog 13 #[.int .i64 a, .int .i64 b] w fun e w' => e = .returned (.bool true) ∧ Below w.heap.size w w' := by
  have FA := Lib.hid (fun W => floated_any a W (wf64 wa).1 (wf64 wa).2)
  have FB := Lib.hid (fun W => floated_any b W (wf64 wb).1 (wf64 wb).2)
  clear wa wb
  go_enter Tryd.func13, Tryd.ntmps13
  go_wp2_with fail
  refine (FA.out _).mono ?_
  rintro e w' ⟨x, m1, rfl, rfl, hx⟩
  have HX := Lib.hid hx
  have hnx : Op.unary .neg (.float .f64 x) = pure (.float .f64 (negW x)) := by rw [← neg_eq hx.1]; rfl
  clear hx
  go_wp2_with fail
  refine (FB.out _).mono ?_
  rintro e w' ⟨y, m2, rfl, rfl, hy⟩
  have HY := Lib.hid hy
  have hny : Op.unary .neg (.float .f64 y) = pure (.float .f64 (negW y)) := by rw [← neg_eq hy.1]; rfl
  clear hy
  go_wp2_with fail
  refine (ratio_any x y _).mono ?_
  rintro e w' ⟨p, m3, rfl, rfl, hp⟩
  have HP := Lib.hid hp
  have hnp : Op.unary .neg (.float .f64 p) = pure (.float .f64 (negW p)) := by rw [← neg_eq hp.1]; rfl
  clear hp
  go_wp2_with fail
  refine (ratio_any (negW x) y _).mono ?_
  rintro e w' ⟨q, m4, rfl, rfl, hq⟩
  have HQ := Lib.hid hq
  clear hq
  go_wp2_with fail
  refine (ratio_any (negW x) (negW y) _).mono ?_
  rintro e w' ⟨r, m5, rfl, rfl, hr⟩
  have HR := Lib.hid hr
  clear hr
  obtain ⟨X, m6, hX, hX2⟩ := run_fop (P := Tryd.prog) (op := .mul) rfl 42 4611686018427387904 x (w.drewN (m1 + m2 + m3 + m4 + m5))
  obtain ⟨Y, m7, hY, hY2⟩ := run_fop (P := Tryd.prog) (op := .mul) rfl 42 4611686018427387904 y (w.drewN (m1 + m2 + m3 + m4 + m5 + m6))
  have HXX := Lib.hid hX2
  have HYY := Lib.hid hY2
  clear hX2 hY2
  go_wp2_with fail
  refine (ratio_any X Y _).mono ?_
  rintro e w' ⟨s, m8, rfl, hw8, hs⟩
  have hok := signs_ok HX.out HY.out HXX.out HYY.out HP.out HQ.out HR.out hs
  have hn1 := (nan_negW HP.out.1)
  have hltp := HP.out.1
  have hltq := HQ.out.1
  have hltr := HR.out.1
  have hlts := hs.1
  have hW : Below w.heap.size w w' := by rw [hw8]; exact pw_below_drewN (pw_below_drewN (Below.refl _ _) _) _
  have HW := Lib.hid hW
  clear hW hw8 hX hY hnx hny HX HY HXX HYY HP HQ HR hs FA FB hn1
  have N1 := fun W => none_below p W
  have N2 := fun W => none_below q W
  have N3 := fun W => none_below r W
  have N4 := fun W => none_below s W
  have M1 := fun W => to_below_n (millsB_any p 0 1 W hltp)
  have S1 := fun W => to_below (same_any q (negW p) W hltq (negW_lt hltp))
  have S2 := fun W => to_below (same_any r p W hltr hltp)
  have S3 := fun W => to_below (same_any s p W hlts hltp)
  have O1 := fun W => order_any p r W hltp hltr
  clear hltp hltq hltr hlts
  cases hn : nanB p with
  | true =>
    have h := hok.fn hn
    rw [hn] at N1
    rw [h.1] at N2
    rw [h.2.1] at N3
    rw [h.2.2] at N4
    rw [millsF_nan hn] at M1
    have HN1 := Lib.hid N1
    have HN2 := Lib.hid N2
    have HN3 := Lib.hid N3
    have HN4 := Lib.hid N4
    have HM1 := Lib.hid M1
    clear N1 N2 N3 N4 M1 S1 S2 S3 O1 hok h hn
    go_wp2_with (first
      | (go_at_call 37; (with_reducible first | refine (HN1.out _).mono ?_ | refine (HN2.out _).mono ?_ | refine (HN3.out _).mono ?_ | refine (HN4.out _).mono ?_); rintro e w' ⟨rfl, hb⟩; have hW := Lib.hid (HW.out.trans (hb.mono HW.out.size)); clear hb HW; have HW := hW; clear hW)
      | (go_at_call 35; (with_reducible refine (HM1.out _).mono ?_); rintro e w' ⟨rfl, hb⟩; have hW := Lib.hid (HW.out.trans (hb.mono HW.out.size)); clear hb HW; have HW := hW; clear hW)
      | (go_at_call 27; (with_reducible refine (awakeS_any _).mono ?_); rintro e w' ⟨rfl, hb⟩; have hW := Lib.hid (HW.out.trans (hb.mono HW.out.size)); clear hb HW; have HW := hW; clear hW))
    go_ret
    exact ⟨rfl, HW.out⟩
  | false =>
    rw [hn] at N1
    rw [hok.fq hn] at S1
    rw [hok.fr hn] at S2
    rw [hok.fs hn] at S3
    rw [hok.fo hn] at O1
    have HN1 := Lib.hid N1
    have HS1 := Lib.hid S1
    have HS2 := Lib.hid S2
    have HS3 := Lib.hid S3
    have HO1 := Lib.hid O1
    clear N1 N2 N3 N4 M1 S1 S2 S3 O1 hok hn
    go_wp2_with (first
      | (go_at_call 37; (with_reducible refine (HN1.out _).mono ?_); rintro e w' ⟨rfl, hb⟩; have hW := Lib.hid (HW.out.trans (hb.mono HW.out.size)); clear hb HW; have HW := hW; clear hW)
      | (go_at_call 29; (with_reducible first | refine (HS1.out _).mono ?_ | refine (HS2.out _).mono ?_ | refine (HS3.out _).mono ?_); rintro e w' ⟨rfl, hb⟩; have hW := Lib.hid (HW.out.trans (hb.mono HW.out.size)); clear hb HW; have HW := hW; clear hW)
      | (go_at_call 32; (with_reducible refine (HO1.out _).mono ?_); rintro e w' ⟨rfl, hb⟩; have hW := Lib.hid (HW.out.trans (hb.mono HW.out.size)); clear hb HW; have HW := hW; clear hW)
      | (go_at_call 27; (with_reducible refine (awakeS_any _).mono ?_); rintro e w' ⟨rfl, hb⟩; have hW := Lib.hid (HW.out.trans (hb.mono HW.out.size)); clear hb HW; have HW := hW; clear hW))
    go_ret
    exact ⟨rfl, HW.out⟩
end Go.Proofs.YtcbkgammlfjjoaaDoor
