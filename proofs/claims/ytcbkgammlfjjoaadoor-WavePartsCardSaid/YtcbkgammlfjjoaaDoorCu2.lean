/- WaveCuts, walked. -/
import Derived.Test.YtcbkgammlfjjoaaDoorCu1
namespace Go.Proofs.YtcbkgammlfjjoaaDoor
set_option linter.unusedVariables false
set_option linter.unusedSimpArgs false
open Go.RowKit Go.Proofs.YtcbkgammlfjjoaaDoorW.PrintWords Go.Proofs.YtcbkgammlfjjoaaDoorW.PrintLast Go.Proofs.YtcbkgammlfjjoaaDoorW.PrintMore

set_option maxRecDepth 100000 in
theorem cuts_bad (x : WV) (A0 : Option Addr) (c0 : Nat) (A1 : Option Addr) (c1 : Nat) (A2 : Option Addr) (c2 : Nat) (A3 : Option Addr) (c3 : Nat) (t : Int) (w : World) (hI : WIn w x A0 c0 A1 c1 A2 c2 A3 c3) (hbad : mayB x = false ∨ t < 0) :
    Calls Tryd.prog 4 #[wvV x A0 c0 A1 c1 A2 c2 A3 c3, .int .i64 t] w fun e w' => e = .returned (.bool true) ∧ Below w.heap.size w w' := by
  have HI := Lib.hid hI
  have HBad := Lib.hid hbad
  have hmy := fun W => fun h => mayR_any x A0 c0 A1 c1 A2 c2 A3 c3 W h
  clear hI
  obtain ⟨W, hW⟩ : ∃ W, w.alloc (Obj.cells #[Value.slice A0 x.nm.length c0, Value.slice A1 x.wd.length c1, Value.slice A2 x.fi.length c2, Value.slice A3 x.li.length c3] 26) = W := ⟨_, rfl⟩
  obtain ⟨hx, hb⟩ := bx_alloc w x A0 c0 A1 c1 A2 c2 A3 c3 hW
  have a0 := hx.k0
  have a1 := hx.k1
  have a2 := hx.k2
  have a3 := hx.k3
  have HX := Lib.hid hx
  have HW := Lib.hid hW
  have HB := Lib.hid hb
  clear hW hb hx
  have cases2 : mayB x = false ∨ (mayB x = true ∧ decide (t < 0) = true) := by
    rcases Bool.eq_false_or_eq_true (mayB x) with hmb | hmb
    case inr => exact Or.inl hmb
    case inl =>
      right
      refine ⟨hmb, decide_eq_true ?_⟩
      rcases hbad with h | h
      · rw [h] at hmb; cases hmb
      · exact h
  clear hbad
  rcases cases2 with hmx | ⟨hmx, h1⟩
  all_goals
    rw [hmx] at hmy
    clear hmx
    have HMy := Lib.hid hmy
    clear hmy
    go_enter Tryd.func4, Tryd.ntmps4
    go_wp2_with fail
    rw [HW.out]
    refine (cut_bad x A0 c0 A1 c1 A2 c2 A3 c3 t W (HI.out.below HB.out) HBad.out).mono ?_
    rintro e w2 ⟨rfl, hb2⟩
    have HB2 := Lib.hid (HB.out.trans (hb2.mono HB.out.size))
    have HX2 := Lib.hid (HX.out.below hb2)
    clear hb2 a0 a1 a2 a3
    go_upto_region 2 with fail
    obtain ⟨W2, hW2⟩ : ∃ W, w2.alloc (.cells #[.slice none 0 0, .slice none 0 0, .slice none 0 0, .slice none 0 0] 26) = W := ⟨_, rfl⟩
    rw [hW2]
    have hb2 : Below w2.heap.size w2 W2 := by rw [← hW2]; exact below_alloc (Below.refl _ _) _
    have m0 : W2.cell? ⟨w2.heap.size, 0, none⟩ = some (.slice none 0 0) := by rw [← hW2]; simp [go_sem]
    have m3 : W2.cell? ⟨w2.heap.size, 3, none⟩ = some (.slice none 0 0) := by rw [← hW2]; simp [go_sem]
    have hs2 : w2.heap.size < W2.heap.size := by rw [← hW2]; simp
    have HB3 := Lib.hid (HB2.out.trans (hb2.mono HB2.out.size))
    have HX3 := Lib.hid (HX2.out.below hb2)
    have HM0 := Lib.hid (And.intro m0 (And.intro m3 hs2))
    clear hW2 hb2 m0 m3 hs2
    have a0 := HX3.out.k0
    have a1 := HX3.out.k1
    have a2 := HX3.out.k2
    have a3 := HX3.out.k3
    go_wp2_with fail
    refine (at_bad x A0 c0 A1 c1 A2 c2 A3 c3 t W2 (HI.out.below HB3.out) HBad.out).mono ?_
    rintro e w4 ⟨rfl, hb4⟩
    have HB4 := Lib.hid (HB3.out.trans (hb4.mono HB3.out.size))
    have HX4 := Lib.hid (HX3.out.below hb4)
    have HM1 := Lib.hid (And.intro ((hb4.cell (p := ⟨w2.heap.size, 0, none⟩) HM0.out.2.2).trans HM0.out.1) (And.intro ((hb4.cell (p := ⟨w2.heap.size, 3, none⟩) HM0.out.2.2).trans HM0.out.2.1) (Nat.lt_of_lt_of_le HM0.out.2.2 hb4.size)))
    clear hb4 a0 a1 a2 a3
    have a0 := HX4.out.k0
    have a1 := HX4.out.k1
    have a2 := HX4.out.k2
    have a3 := HX4.out.k3
    go_wp2_with fail
    refine (HMy.out w4 (HI.out.below HB4.out)).mono ?_
    rintro e w5 ⟨rfl, hb5⟩
    have HB5 := Lib.hid (HB4.out.trans (hb5.mono HB4.out.size))
    have m0 := (hb5.cell (p := ⟨w2.heap.size, 0, none⟩) HM1.out.2.2).trans HM1.out.1
    have m3 := (hb5.cell (p := ⟨w2.heap.size, 3, none⟩) HM1.out.2.2).trans HM1.out.2.1
    clear hb5 a0 a1 a2 a3
    go_wp2_with fail
    refine (awakeW_any w5).mono ?_
    rintro e w6 ⟨rfl, hb6⟩
    have HB6 := Lib.hid (HB5.out.trans (hb6.mono HB5.out.size))
    clear hb6 m0 m3
    go_wp2_with fail
    go_ret
    exact ⟨rfl, HB6.out⟩
end Go.Proofs.YtcbkgammlfjjoaaDoor
