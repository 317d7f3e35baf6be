/- WaveSteps, walked. -/
import Derived.Test.YtcbkgammlfjjoaaDoorSt2
namespace Go.Proofs.YtcbkgammlfjjoaaDoor
set_option linter.unusedVariables false
set_option linter.unusedSimpArgs false
open Go.RowKit Go.Proofs.YtcbkgammlfjjoaaDoorW.PrintWords Go.Proofs.YtcbkgammlfjjoaaDoorW.PrintLast Go.Proofs.YtcbkgammlfjjoaaDoorW.PrintMore
attribute [local go_sem] min2_int
theorem cut_least (x y z : WV) (a b : Int) (hy : cutX x (untilN x.li a) = y) (hz : cutX y (untilN y.li b) = z) : cutX x (untilN x.li (min a b)) = z := by
  subst hy
  subst hz
  rw [cutX_cut]
set_option maxRecDepth 100000 in
set_option maxHeartbeats 4000000 in
theorem steps_good (x : WV) (A0 : Option Addr) (c0 : Nat) (A1 : Option Addr) (c1 : Nat) (A2 : Option Addr) (c2 : Nat) (A3 : Option Addr) (c3 : Nat) (a b : Int) (w : World) (hI : WIn w x A0 c0 A1 c1 A2 c2 A3 c3) (hmx : mayB x = true) (ha : 0 ≤ a) (hb0 : 0 ≤ b) (ha2 : a ≤ 1152921504606846976) :
    Calls Tryd.prog 6 #[wvV x A0 c0 A1 c1 A2 c2 A3 c3, .int .i64 a, .int .i64 b] w fun e w' => e = .returned (.bool true) ∧ Below w.heap.size w w' := by
  have HI := Lib.hid hI
  have HM := Lib.hid ((may_iff x).1 hmx)
  have hmy := fun W => fun h => mayR_any x A0 c0 A1 c1 A2 c2 A3 c3 W h
  rw [hmx] at hmy
  have HMy := Lib.hid hmy
  clear hmy hI hmx
  obtain ⟨W, hW⟩ : ∃ W, w.alloc (Obj.cells #[Value.slice A0 x.nm.length c0, Value.slice A1 x.wd.length c1, Value.slice A2 x.fi.length c2, Value.slice A3 x.li.length c3] 26) = W := ⟨_, rfl⟩
  obtain ⟨hx, hb⟩ := bx_alloc w x A0 c0 A1 c1 A2 c2 A3 c3 hW
  have a0 := hx.k0
  have a1 := hx.k1
  have a2 := hx.k2
  have a3 := hx.k3
  have HW := Lib.hid hW
  have HB := Lib.hid hb
  have HX := Lib.hid hx
  have HA := Lib.hid ha
  have HA2 := Lib.hid ha2
  have HB0 := Lib.hid hb0
  clear hW hb hx
  have h1 : decide (a < 0) = false := decide_eq_false (by omega)
  have h2 : decide (b < 0) = false := decide_eq_false (by omega)
  have h3 : decide (1152921504606846976 < a) = false := decide_eq_false (by omega)
  have hsum : IntKind.i64.wrap (a + 1) = a + 1 := by unfold IntKind.wrap; simp only [IntKind.signed, IntKind.bits]; simp; omega
  clear ha ha2 hb0
  go_enter Tryd.func6, Tryd.ntmps6
  go_wp2_with fail
  rw [HW.out]
  refine (HMy.out W (HI.out.below HB.out)).mono ?_
  rintro e w2 ⟨rfl, hb2⟩
  have HB2 := Lib.hid (HB.out.trans (hb2.mono HB.out.size))
  have HX2 := Lib.hid (HX.out.below hb2)
  clear hb2 a0 a1 a2 a3
  have a0 := HX2.out.k0
  have a1 := HX2.out.k1
  have a2 := HX2.out.k2
  have a3 := HX2.out.k3
  go_wp2_with fail
  refine (cut_laid x A0 c0 A1 c1 A2 c2 A3 c3 a w2 (HI.out.below HB2.out) HM.out HA.out).mono ?_
  rintro e w3 ⟨B0, d0, B1, d1, B2, d2, B3, d3, rfl, hb3, hJ⟩
  generalize hy : cutX x (untilN x.li a) = y at hJ ⊢
  have HB3 := Lib.hid (HB2.out.trans (hb3.mono HB2.out.size))
  have HX3 := Lib.hid (HX2.out.below hb3)
  have HY := Lib.hid hy
  have HJ := Lib.hid hJ
  have HMy := Lib.hid (show May y by rw [← hy]; exact HM.out.cut _)
  clear hb3 hJ hy a0 a1 a2 a3
  go_wp2_with fail
  obtain ⟨W3, hW3⟩ : ∃ W, w3.alloc (Obj.cells #[Value.slice B0 y.nm.length d0, Value.slice B1 y.wd.length d1, Value.slice B2 y.fi.length d2, Value.slice B3 y.li.length d3] 26) = W := ⟨_, rfl⟩
  rw [hW3]
  obtain ⟨hx3, hb3⟩ := bx_alloc w3 y B0 d0 B1 d1 B2 d2 B3 d3 hW3
  have HB4 := Lib.hid (HB3.out.trans (hb3.mono HB3.out.size))
  have HX4 := Lib.hid (HX3.out.below hb3)
  have HJ4 := Lib.hid (HJ.out.below hb3)
  clear hW3 hb3 hx3
  refine (cut_laid y B0 d0 B1 d1 B2 d2 B3 d3 b W3 HJ4.out HMy.out HB0.out).mono ?_
  rintro e w5 ⟨E0, f0, E1, f1, E2, f2, E3, f3, rfl, hb5, hK⟩
  generalize hz : cutX y (untilN y.li b) = z at hK ⊢
  have HB5 := Lib.hid (HB4.out.trans (hb5.mono HB4.out.size))
  have HX5 := Lib.hid (HX4.out.below hb5)
  have HZ := Lib.hid hz
  have HK := Lib.hid hK
  have HMz := Lib.hid (show May z by rw [← hz]; exact HMy.out.cut _)
  clear hb5 hK hz
  go_upto_region 5 with fail
  obtain ⟨W5, hW5⟩ : ∃ W, w5.alloc (Obj.cells #[Value.slice E0 z.nm.length f0, Value.slice E1 z.wd.length f1, Value.slice E2 z.fi.length f2, Value.slice E3 z.li.length f3] 26) = W := ⟨_, rfl⟩
  rw [hW5]
  obtain ⟨hx5, hb5⟩ := bx_alloc w5 z E0 f0 E1 f1 E2 f2 E3 f3 hW5
  have HB6 := Lib.hid (HB5.out.trans (hb5.mono HB5.out.size))
  have HX6 := Lib.hid (HX5.out.below hb5)
  have HK6 := Lib.hid (HK.out.below hb5)
  have HZ6 := Lib.hid hx5
  clear hW5 hb5 hx5
  have a0 := HX6.out.k0
  have a1 := HX6.out.k1
  have a2 := HX6.out.k2
  have a3 := HX6.out.k3
  go_wp2_with fail
  clear a0 a1 a2 a3
  refine (cut_laid x A0 c0 A1 c1 A2 c2 A3 c3 (min a b) W5 (HI.out.below HB6.out) HM.out (by have := HA.out; have := HB0.out; omega)).mono ?_
  rintro e w7 ⟨G0, g0, G1, g1, G2, g2, G3, g3, rfl, hb7, hL⟩
  have huz := cut_least x y z a b HY.out HZ.out
  rw [huz] at hL ⊢
  have HB7 := Lib.hid (HB6.out.trans (hb7.mono HB6.out.size))
  have HX7 := Lib.hid (HX6.out.below hb7)
  have HK7 := Lib.hid (HK6.out.below hb7)
  have HZ7 := Lib.hid (HZ6.out.below hb7)
  have HL := Lib.hid hL
  clear hb7 hL huz
  go_upto_region 6 with fail
  obtain ⟨W7, hW7⟩ : ∃ W, w7.alloc (Obj.cells #[Value.slice G0 z.nm.length g0, Value.slice G1 z.wd.length g1, Value.slice G2 z.fi.length g2, Value.slice G3 z.li.length g3] 26) = W := ⟨_, rfl⟩
  rw [hW7]
  obtain ⟨hx7, hb7⟩ := bx_alloc w7 z G0 g0 G1 g1 G2 g2 G3 g3 hW7
  have HB8 := Lib.hid (HB7.out.trans (hb7.mono HB7.out.size))
  have HX8 := Lib.hid (HX7.out.below hb7)
  have HK8 := Lib.hid (HK7.out.below hb7)
  have HL8 := Lib.hid (HL.out.below hb7)
  have HZ8 := Lib.hid (HZ7.out.below hb7)
  have HU8 := Lib.hid hx7
  clear hW7 hb7 hx7
  have a0 := HZ8.out.k0
  have a1 := HZ8.out.k1
  have a2 := HZ8.out.k2
  have a3 := HZ8.out.k3
  have u0 := HU8.out.k0
  have u1 := HU8.out.k1
  have u2 := HU8.out.k2
  have u3 := HU8.out.k3
  go_wp2_with fail
  clear a0 a1 a2 a3 u0 u1 u2 u3
  obtain ⟨kk, hkk⟩ := same_refl z.nm z.wd z.fi z.li (by have := HMz.out.n; omega) (by have := HMz.out.n; have := HMz.out.wd; omega) (by have := HMz.out.n; have := HMz.out.fi; omega) (by have := HK8.out.b3; omega) true
  refine (silkwormref09_SameWaves.calls kk E0 f0 z.nm E1 f1 z.wd E2 f2 z.fi E3 f3 z.li G0 g0 z.nm G1 g1 z.wd G2 g2 z.fi G3 g3 z.li true true W7 HK8.out.h0 HK8.out.l0 HK8.out.h1 HK8.out.l1 HK8.out.h2 HK8.out.l2 HK8.out.h3 HK8.out.l3 HL8.out.h0 HL8.out.l0 HL8.out.h1 HL8.out.l1 HL8.out.h2 HL8.out.l2 HL8.out.h3 HL8.out.l3 hkk).mono ?_
  clear hkk
  rintro e w9 ⟨rfl, hb9⟩
  have HB9 := Lib.hid (HB8.out.trans (hb9.mono HB8.out.size))
  have HX9 := Lib.hid (HX8.out.below hb9)
  clear hb9
  have a0 := HX9.out.k0
  have a1 := HX9.out.k1
  have a2 := HX9.out.k2
  have a3 := HX9.out.k3
  go_wp2_with fail
  clear a0 a1 a2 a3
  refine (at_laid x A0 c0 A1 c1 A2 c2 A3 c3 a w9 (HI.out.below HB9.out) HM.out HA.out).mono ?_
  rintro e wa ⟨B, db, rfl, hba, hvC, hvA, hvl⟩
  have HBa := Lib.hid (HB9.out.trans (hba.mono HB9.out.size))
  have HXa := Lib.hid (HX9.out.below hba)
  generalize hP : atF x a = P at hvC hvl ⊢
  have HP := Lib.hid hP
  have HVC := Lib.hid hvC
  have HVA := Lib.hid hvA
  have HVl := Lib.hid hvl
  clear hba hvC hvA hvl hP
  have a0 := HXa.out.k0
  have a1 := HXa.out.k1
  have a2 := HXa.out.k2
  have a3 := HXa.out.k3
  go_wp2_with fail
  clear a0 a1 a2 a3
  refine (cut_laid x A0 c0 A1 c1 A2 c2 A3 c3 (a + 1) wa (HI.out.below HBa.out) HM.out (by have := HA.out; omega)).mono ?_
  rintro e wb ⟨M0, m0, M1, m1, M2, m2, M3, m3, rfl, hbb, hN⟩
  have hq := (atF_cut x a HM.out).trans HP.out
  generalize hv : cutX x (untilN x.li (a + 1)) = v at hN hq ⊢
  have HBb := Lib.hid (HBa.out.trans (hbb.mono HBa.out.size))
  have HVCb := Lib.hid (Kd.C_below HVC.out hbb)
  have HN := Lib.hid hN
  have HQ := Lib.hid hq
  have HMv := Lib.hid (show May v by rw [← hv]; exact HM.out.cut _)
  clear hbb hN hq hv
  go_upto_region 10 with fail
  obtain ⟨Wb, hWb⟩ : ∃ W, wb.alloc (Obj.cells #[Value.slice M0 v.nm.length m0, Value.slice M1 v.wd.length m1, Value.slice M2 v.fi.length m2, Value.slice M3 v.li.length m3] 26) = W := ⟨_, rfl⟩
  rw [hWb]
  obtain ⟨hxb, hbb⟩ := bx_alloc wb v M0 m0 M1 m1 M2 m2 M3 m3 hWb
  have HBc := Lib.hid (HBb.out.trans (hbb.mono HBb.out.size))
  have HNc := Lib.hid (HN.out.below hbb)
  have HVCc := Lib.hid (Kd.C_below HVCb.out hbb)
  have HXc := Lib.hid hxb
  clear hWb hbb hxb
  have a0 := HXc.out.k0
  have a1 := HXc.out.k1
  have a2 := HXc.out.k2
  have a3 := HXc.out.k3
  go_wp2_with fail
  clear a0 a1 a2 a3
  refine (at_laid v M0 m0 M1 m1 M2 m2 M3 m3 4611686018427387903 Wb HNc.out HMv.out (by decide)).mono ?_
  rintro e wd ⟨D, dd, rfl, hbd, huC, huA, hul⟩
  rw [HQ.out] at huC hul ⊢
  have HBd := Lib.hid (HBc.out.trans (hbd.mono HBc.out.size))
  have HVCd := Lib.hid (Kd.C_below HVCc.out hbd)
  have HUC := Lib.hid huC
  have HUA := Lib.hid huA
  have HUl := Lib.hid hul
  have hPl : P.length ≤ 4096 := by
    rw [← HP.out]
    unfold atF
    rw [atK_length, HM.out.fi]
    exact HM.out.n
  clear hbd huC huA hul
  go_wp2_with fail
  go_loopw [19] (fun v19 wx => ∃ i : Nat, v19 = .int .i64 i ∧ i ≤ P.length ∧ Hid (Below w.heap.size w wx) ∧ Hid (Below wd.heap.size wd wx)) (fun v19 _ => P.length - (intOf v19).toNat)
  case atStart => exact ⟨0, rfl, Nat.zero_le _, HBd, Lib.hid (Below.refl _ _)⟩
  case round =>
    obtain ⟨i, rfl, hi, HBx, HDx⟩ := hrel
    by_cases hlt : i < P.length
    · obtain ⟨b3, o3, hA3, hs3, hb3⟩ := str_cell (Kd.C_below HVCd.out HDx.out) HVA.out i hlt
      obtain ⟨b4, o4, hA4, hs4, hb4⟩ := str_cell (Kd.C_below HUC.out HDx.out) HUA.out i hlt
      subst hA3
      subst hA4
      clear hb3 hb4
      have hPl2 : P.length ≤ 4096 := hPl
      go_wp2_with fail
      go_region
      go_wp2_with fail
      refine ⟨⟨i + 1, by simp, hlt, Lib.hid (Below.drew HBx.out), Lib.hid (Below.drew HDx.out)⟩, by simp [intOf]; omega⟩
    · obtain rfl : i = P.length := by omega
      go_wp2_with fail
      refine (awakeW_any _).mono ?_
      rintro e we ⟨rfl, hbe⟩
      have HBe := Lib.hid (HBx.out.trans (hbe.mono HBx.out.size))
      clear hbe
      go_wp2_with fail
      go_ret
      exact ⟨rfl, HBe.out⟩
theorem steps_any (x : WV) (A0 : Option Addr) (c0 : Nat) (A1 : Option Addr) (c1 : Nat) (A2 : Option Addr) (c2 : Nat) (A3 : Option Addr) (c3 : Nat) (a b : Int) (w : World) (hI : WIn w x A0 c0 A1 c1 A2 c2 A3 c3) :
    Calls Tryd.prog 6 #[wvV x A0 c0 A1 c1 A2 c2 A3 c3, .int .i64 a, .int .i64 b] w fun e w' => e = .returned (.bool true) ∧ Below w.heap.size w w' := by
  by_cases h : mayB x = false ∨ a < 0 ∨ b < 0 ∨ 1152921504606846976 < a
  · exact steps_bad x A0 c0 A1 c1 A2 c2 A3 c3 a b w hI h
  · have h1 : mayB x = true := by
      rcases Bool.eq_false_or_eq_true (mayB x) with h1 | h1
      · exact h1
      · exact absurd (Or.inl h1) h
    exact steps_good x A0 c0 A1 c1 A2 c2 A3 c3 a b w hI h1 (by omega) (by omega) (by omega)
theorem steps_all (x : WV) (A0 : Option Addr) (c0 : Nat) (A1 : Option Addr) (c1 : Nat) (A2 : Option Addr) (c2 : Nat) (A3 : Option Addr) (c3 : Nat) (a b : Int) (w : World) (hI : WIn w x A0 c0 A1 c1 A2 c2 A3 c3) (_ : (Lit.int .i64 a).wf = true) (_ : (Lit.int .i64 b).wf = true) :
    Calls Tryd.prog 6 #[wvV x A0 c0 A1 c1 A2 c2 A3 c3, .int .i64 a, .int .i64 b] w fun e w' => e = .returned (.bool true) ∧ Below w.heap.size w w' :=
  steps_any x A0 c0 A1 c1 A2 c2 A3 c3 a b w hI
end Go.Proofs.YtcbkgammlfjjoaaDoor
