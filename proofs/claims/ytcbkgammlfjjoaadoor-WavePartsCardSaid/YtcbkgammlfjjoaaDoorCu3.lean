/- WaveCuts, walked: a waveform that may be. -/
import Derived.Test.YtcbkgammlfjjoaaDoorCu2
namespace Go.Proofs.YtcbkgammlfjjoaaDoor
set_option linter.unusedVariables false
set_option linter.unusedSimpArgs false
open Go.RowKit Go.Proofs.YtcbkgammlfjjoaaDoorW.PrintWords Go.Proofs.YtcbkgammlfjjoaaDoorW.PrintLast Go.Proofs.YtcbkgammlfjjoaaDoorW.PrintMore

theorem same_any (y : WV) (A0 : Option Addr) (c0 : Nat) (A1 : Option Addr) (c1 : Nat) (A2 : Option Addr) (c2 : Nat) (A3 : Option Addr) (c3 : Nat) (B0 : Option Addr) (d0 : Nat) (B1 : Option Addr) (d1 : Nat) (B2 : Option Addr) (d2 : Nat) (B3 : Option Addr) (d3 : Nat) (w : World) (hI : WIn w y A0 c0 A1 c1 A2 c2 A3 c3) (hJ : WIn w y B0 d0 B1 d1 B2 d2 B3 d3) (hM : May y) :
    Calls Tryd.prog 22 #[wvV y A0 c0 A1 c1 A2 c2 A3 c3, wvV y B0 d0 B1 d1 B2 d2 B3 d3, .bool true] w fun e w' => e = .returned (.bool true) ∧ Below w.heap.size w w' := by
  obtain ⟨k, hk⟩ := same_refl y.nm y.wd y.fi y.li (by have := hM.n; omega) (by have := hM.n; have := hM.wd; omega) (by have := hM.n; have := hM.fi; omega) (by have := hI.b3; omega) true
  exact silkwormref09_SameWaves.calls k A0 c0 y.nm A1 c1 y.wd A2 c2 y.fi A3 c3 y.li B0 d0 y.nm B1 d1 y.wd B2 d2 y.fi B3 d3 y.li true true w hI.h0 hI.l0 hI.h1 hI.l1 hI.h2 hI.l2 hI.h3 hI.l3 hJ.h0 hJ.l0 hJ.h1 hJ.l1 hJ.h2 hJ.l2 hJ.h3 hJ.l3 hk
set_option maxRecDepth 100000 in
set_option maxHeartbeats 4000000 in
theorem cuts_good (x : WV) (A0 : Option Addr) (c0 : Nat) (A1 : Option Addr) (c1 : Nat) (A2 : Option Addr) (c2 : Nat) (A3 : Option Addr) (c3 : Nat) (t : Int) (w : World) (hI : WIn w x A0 c0 A1 c1 A2 c2 A3 c3) (hmx : mayB x = true) (ht : 0 ≤ t) :
    Calls Tryd.prog 4 #[wvV x A0 c0 A1 c1 A2 c2 A3 c3, .int .i64 t] w fun e w' => e = .returned (.bool true) ∧ Below w.heap.size w w' := by
  have HI := Lib.hid hI
  have HM := Lib.hid ((may_iff x).1 hmx)
  have HT := Lib.hid ht
  have hmy := fun W => fun h => mayR_any x A0 c0 A1 c1 A2 c2 A3 c3 W h
  rw [hmx] at hmy
  have HMy := Lib.hid hmy
  clear hmy hI hmx
  obtain ⟨W, hW⟩ : ∃ W, w.alloc (Obj.cells #[Value.slice A0 x.nm.length c0, Value.slice A1 x.wd.length c1, Value.slice A2 x.fi.length c2, Value.slice A3 x.li.length c3] 26) = W := ⟨_, rfl⟩
  obtain ⟨hx, hb⟩ := bx_alloc w x A0 c0 A1 c1 A2 c2 A3 c3 hW
  have a0 := hx.k0
  have a1 := hx.k1
  have a2 := hx.k2
  have a3 := hx.k3
  have HX := Lib.hid hx
  have HW := Lib.hid hW
  have HB := Lib.hid hb
  have h1 : decide (t < 0) = false := decide_eq_false (by omega)
  clear hW hb hx ht
  go_enter Tryd.func4, Tryd.ntmps4
  go_wp2_with fail
  rw [HW.out]
  refine (cut_laid x A0 c0 A1 c1 A2 c2 A3 c3 t W (HI.out.below HB.out) HM.out HT.out).mono ?_
  rintro e w2 ⟨E0, f0, E1, f1, E2, f2, E3, f3, rfl, hb2, hJ⟩
  generalize hy : cutX x (untilN x.li t) = y at hJ ⊢
  have HY := Lib.hid hy
  have HMy' := Lib.hid (show May y by rw [← hy]; exact HM.out.cut _)
  have HB2 := Lib.hid (HB.out.trans (hb2.mono HB.out.size))
  have HX2 := Lib.hid (HX.out.below hb2)
  have HJ := Lib.hid hJ
  clear hb2 hJ hy a0 a1 a2 a3
  go_upto_region 2 with fail
  obtain ⟨W2, hW2⟩ : ∃ W, w2.alloc (Obj.cells #[Value.slice E0 y.nm.length f0, Value.slice E1 y.wd.length f1, Value.slice E2 y.fi.length f2, Value.slice E3 y.li.length f3] 26) = W := ⟨_, rfl⟩
  rw [hW2]
  obtain ⟨hx2, hb2⟩ := bx_alloc w2 y E0 f0 E1 f1 E2 f2 E3 f3 hW2
  have HB3 := Lib.hid (HB2.out.trans (hb2.mono HB2.out.size))
  have HX3 := Lib.hid (HX2.out.below hb2)
  have HJ3 := Lib.hid (HJ.out.below hb2)
  have HY3 := Lib.hid hx2
  clear hW2 hb2 hx2
  have a0 := HX3.out.k0
  have a1 := HX3.out.k1
  have a2 := HX3.out.k2
  have a3 := HX3.out.k3
  go_wp2_with fail
  clear a0 a1 a2 a3
  refine (at_laid x A0 c0 A1 c1 A2 c2 A3 c3 t W2 (HI.out.below HB3.out) HM.out HT.out).mono ?_
  rintro e w4 ⟨B, db, rfl, hba, hvC, hvA, hvl⟩
  have hPl : (atF x t).length ≤ 4096 := by
    unfold atF
    rw [atK_length, HM.out.fi]
    exact HM.out.n
  generalize hP : atF x t = P at hvC hvl hPl ⊢
  have HP := Lib.hid hP
  have HVC := Lib.hid hvC
  have HVA := Lib.hid hvA
  have HVl := Lib.hid hvl
  have HPl := Lib.hid hPl
  have HB4 := Lib.hid (HB3.out.trans (hba.mono HB3.out.size))
  have HX4 := Lib.hid (HX3.out.below hba)
  have HJ4 := Lib.hid (HJ3.out.below hba)
  have HY4 := Lib.hid (HY3.out.below hba)
  clear hba hvC hvA hvl hP hPl
  have a0 := HX4.out.k0
  have a1 := HX4.out.k1
  have a2 := HX4.out.k2
  have a3 := HX4.out.k3
  go_wp2_with fail
  clear a0 a1 a2 a3
  refine (HMy.out w4 (HI.out.below HB4.out)).mono ?_
  rintro e w5 ⟨rfl, hb5⟩
  have HB5 := Lib.hid (HB4.out.trans (hb5.mono HB4.out.size))
  have HX5 := Lib.hid (HX4.out.below hb5)
  have HJ5 := Lib.hid (HJ4.out.below hb5)
  have HY5 := Lib.hid (HY4.out.below hb5)
  have HVC5 := Lib.hid (Kd.C_below HVC.out hb5)
  clear hb5
  have a0 := HX5.out.k0
  have a1 := HX5.out.k1
  have a2 := HX5.out.k2
  have a3 := HX5.out.k3
  go_wp2_with fail
  clear a0 a1 a2 a3
  refine (atR_laid x A0 c0 A1 c1 A2 c2 A3 c3 t w5 (HI.out.below HB5.out) HM.out).mono ?_
  rintro e w6 ⟨D, dd, rfl, hb6, huC, huA, hul⟩
  rw [HP.out] at huC hul ⊢
  have HB6 := Lib.hid (HB5.out.trans (hb6.mono HB5.out.size))
  have HX6 := Lib.hid (HX5.out.below hb6)
  have HJ6 := Lib.hid (HJ5.out.below hb6)
  have HY6 := Lib.hid (HY5.out.below hb6)
  have HVC6 := Lib.hid (Kd.C_below HVC5.out hb6)
  have HUC := Lib.hid huC
  have HUA := Lib.hid huA
  have HUl := Lib.hid hul
  clear hb6 huC huA hul
  go_upto_region 6 with fail
  have HI6 := Lib.hid (HI.out.below HB6.out)
  have a0 := HX6.out.k0
  have a1 := HX6.out.k1
  have a2 := HX6.out.k2
  have a3 := HX6.out.k3
  have u0 := HY6.out.k0
  have u1 := HY6.out.k1
  have u2 := HY6.out.k2
  have u3 := HY6.out.k3
  have z1 := HX6.out.s
  have z2 := HY6.out.s
  have hun := fun W (h : WIn W x A0 c0 A1 c1 A2 c2 A3 c3) => untilR_laid x A0 c0 A1 c1 A2 c2 A3 c3 t W h HM.out
  rw [HY.out] at hun
  have HUn := Lib.hid hun
  have hsm := fun W B3 d3 (h : WIn W y E0 f0 E1 f1 E2 f2 E3 f3) (g : WIn W y A0 c0 A1 c1 A2 c2 B3 d3) => same_any y E0 f0 E1 f1 E2 f2 E3 f3 A0 c0 A1 c1 A2 c2 B3 d3 W h g HMy'.out
  have HSm := Lib.hid hsm
  clear hun hsm
  have mkS : ∀ W, Below w6.heap.size w6 W → (fun w' => Below w6.heap.size w6 w' ∧ w'.cell? ⟨w.heap.size, 0, none⟩ = some (.slice A0 x.nm.length c0) ∧ w'.cell? ⟨w.heap.size, 1, none⟩ = some (.slice A1 x.wd.length c1) ∧ w'.cell? ⟨w.heap.size, 2, none⟩ = some (.slice A2 x.fi.length c2) ∧ w'.cell? ⟨w.heap.size, 3, none⟩ = some (.slice A3 x.li.length c3) ∧ w'.cell? ⟨w2.heap.size, 0, none⟩ = some (.slice E0 y.nm.length f0) ∧ w'.cell? ⟨w2.heap.size, 1, none⟩ = some (.slice E1 y.wd.length f1) ∧ w'.cell? ⟨w2.heap.size, 2, none⟩ = some (.slice E2 y.fi.length f2) ∧ w'.cell? ⟨w2.heap.size, 3, none⟩ = some (.slice E3 y.li.length f3)) W := by
    intro W hb
    have p := HX6.out.below hb
    have q := HY6.out.below hb
    exact ⟨hb, p.k0, p.k1, p.k2, p.k3, q.k0, q.k1, q.k2, q.k3⟩
  have MkS := Lib.hid mkS
  clear mkS
  go_region_held3 (fun w' => Below w6.heap.size w6 w' ∧ w'.cell? ⟨w.heap.size, 0, none⟩ = some (.slice A0 x.nm.length c0) ∧ w'.cell? ⟨w.heap.size, 1, none⟩ = some (.slice A1 x.wd.length c1) ∧ w'.cell? ⟨w.heap.size, 2, none⟩ = some (.slice A2 x.fi.length c2) ∧ w'.cell? ⟨w.heap.size, 3, none⟩ = some (.slice A3 x.li.length c3) ∧ w'.cell? ⟨w2.heap.size, 0, none⟩ = some (.slice E0 y.nm.length f0) ∧ w'.cell? ⟨w2.heap.size, 1, none⟩ = some (.slice E1 y.wd.length f1) ∧ w'.cell? ⟨w2.heap.size, 2, none⟩ = some (.slice E2 y.fi.length f2) ∧ w'.cell? ⟨w2.heap.size, 3, none⟩ = some (.slice E3 y.li.length f3))
    (first | exact MkS.out _ (Below.refl _ _).drew | exact MkS.out _ hnew)
    (first
      | (go_at_call 23; go_split_ands; refine (HUn.out _ ?_).mono ?_; exact HI6.out.below (by assumption); rintro e w9 ⟨B3, d3, rfl, hb9, hU⟩; have HU := Lib.hid hU; have hnew := Below.trans (a := w6) (by assumption) (hb9.mono (Below.size (w := w6) (by assumption))); clear hb9 hU)
      | (go_at_call 22; go_split_ands; refine (HSm.out _ _ _ ?_ HU.out).mono ?_; exact HJ6.out.below (by assumption); rintro e w10 ⟨rfl, hb10⟩; have hnew := Below.trans (a := w6) (by assumption) (hb10.mono (Below.size (w := w6) (by assumption))); clear hb10))
  have HBx := Lib.hid (HB6.out.trans (hnew.mono HB6.out.size))
  have HVCd := Lib.hid (Kd.C_below HVC6.out hnew)
  have HUCd := Lib.hid (Kd.C_below HUC.out hnew)
  have hPl := HPl.out
  generalize hwd : w10 = wd at *
  clear hnew hwd
  go_wp2_with fail
  go_loopw [10] (fun v19 wx => ∃ i : Nat, v19 = .int .i64 i ∧ i ≤ P.length ∧ Hid (Below w.heap.size w wx) ∧ Hid (Below wd.heap.size wd wx)) (fun v19 _ => P.length - (intOf v19).toNat)
  case atStart => exact ⟨0, rfl, Nat.zero_le _, HBx, Lib.hid (Below.refl _ _)⟩
  case round =>
    obtain ⟨i, rfl, hi, HBy, HDx⟩ := hrel
    by_cases hlt : i < P.length
    · obtain ⟨b3, o3, hA3, hs3, hb3⟩ := str_cell (Kd.C_below HVCd.out HDx.out) HVA.out i hlt
      obtain ⟨b4, o4, hA4, hs4, hb4⟩ := str_cell (Kd.C_below HUCd.out HDx.out) HUA.out i hlt
      subst hA3
      subst hA4
      clear hb3 hb4
      go_wp2_with fail
      go_region
      go_wp2_with fail
      refine ⟨⟨i + 1, by simp, hlt, Lib.hid (Below.drew HBy.out), Lib.hid (Below.drew HDx.out)⟩, by simp [intOf]; omega⟩
    · obtain rfl : i = P.length := by omega
      go_wp2_with fail
      refine (awakeW_any _).mono ?_
      rintro e we ⟨rfl, hbe⟩
      have HBe := Lib.hid (HBy.out.trans (hbe.mono HBy.out.size))
      clear hbe
      go_wp2_with fail
      go_ret
      exact ⟨rfl, HBe.out⟩
theorem cuts_all (x : WV) (A0 : Option Addr) (c0 : Nat) (A1 : Option Addr) (c1 : Nat) (A2 : Option Addr) (c2 : Nat) (A3 : Option Addr) (c3 : Nat) (t : Int) (w : World) (hI : WIn w x A0 c0 A1 c1 A2 c2 A3 c3) (_ : (Lit.int .i64 t).wf = true) :
    Calls Tryd.prog 4 #[wvV x A0 c0 A1 c1 A2 c2 A3 c3, .int .i64 t] w fun e w' => e = .returned (.bool true) ∧ Below w.heap.size w w' := by
  by_cases h : mayB x = false ∨ t < 0
  · exact cuts_bad x A0 c0 A1 c1 A2 c2 A3 c3 t w hI h
  · have h1 : mayB x = true := by
      rcases Bool.eq_false_or_eq_true (mayB x) with h1 | h1
      · exact h1
      · exact absurd (Or.inl h1) h
    exact cuts_good x A0 c0 A1 c1 A2 c2 A3 c3 t w hI h1 (by omega)
end Go.Proofs.YtcbkgammlfjjoaaDoor
