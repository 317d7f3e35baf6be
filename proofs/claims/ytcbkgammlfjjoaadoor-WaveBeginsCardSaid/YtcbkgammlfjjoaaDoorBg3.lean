/- WaveBegins, walked. -/
import Derived.Test.YtcbkgammlfjjoaaDoorBg2
import Derived.Test.YtcbkgammlfjjoaaDoorMayR
namespace Go.Proofs.YtcbkgammlfjjoaaDoor
set_option linter.unusedVariables false
set_option linter.unusedSimpArgs false
open Go.RowKit Go.Proofs.YtcbkgammlfjjoaaDoorW.PrintWords Go.Proofs.YtcbkgammlfjjoaaDoorW.PrintLast Go.Proofs.YtcbkgammlfjjoaaDoorW.PrintMore
attribute [local irreducible] wpQuiet
set_option maxRecDepth 100000 in
set_option maxHeartbeats 8000000 in
theorem wbegins_any (x : WV) (A0 : Option Addr) (c0 : Nat) (A1 : Option Addr) (c1 : Nat) (A2 : Option Addr) (c2 : Nat) (A3 : Option Addr) (c3 : Nat) (y : WV) (B0 : Option Addr) (d0 : Nat) (B1 : Option Addr) (d1 : Nat) (B2 : Option Addr) (d2 : Nat) (B3 : Option Addr) (d3 : Nat) (t : Int) (w : World) (hI : WIn w x A0 c0 A1 c1 A2 c2 A3 c3) (hJ : WIn w y B0 d0 B1 d1 B2 d2 B3 d3) (_ : (Lit.int .i64 t).wf = true) :
    Calls Tryd.prog 5 #[wvV x A0 c0 A1 c1 A2 c2 A3 c3, wvV y B0 d0 B1 d1 B2 d2 B3 d3, .int .i64 t] w fun e w' => e = .returned (.bool true) ∧ Below w.heap.size w w' := by
  have HI := Lib.hid hI
  have HJ := Lib.hid hJ
  have q0 := fun W (hb : Below w.heap.size w W) => begins_full x A0 c0 A1 c1 A2 c2 A3 c3 y B0 d0 B1 d1 B2 d2 B3 d3 W (hI.below hb) (hJ.below hb)
  have q1 := fun W (hb : Below w.heap.size w W) => mayR_any x A0 c0 A1 c1 A2 c2 A3 c3 W (hI.below hb)
  have q2 := fun W (hb : Below w.heap.size w W) => mayR_any y B0 d0 B1 d1 B2 d2 B3 d3 W (hJ.below hb)
  have q3 := fun (hm : mayB x = true) W (hb : Below w.heap.size w W) => beginsR_any x A0 c0 A1 c1 A2 c2 A3 c3 y B0 d0 B1 d1 B2 d2 B3 d3 W (hI.below hb) (hJ.below hb) hm
  clear hI hJ
  obtain ⟨W, hW⟩ : ∃ W, ((w.alloc (Obj.cells #[Value.slice A0 x.nm.length c0, Value.slice A1 x.wd.length c1, Value.slice A2 x.fi.length c2, Value.slice A3 x.li.length c3] 26)).alloc (Obj.cells #[Value.slice B0 y.nm.length d0, Value.slice B1 y.wd.length d1, Value.slice B2 y.fi.length d2, Value.slice B3 y.li.length d3] 26)) = W := ⟨_, rfl⟩
  have hb1 : Below w.heap.size w W := by rw [← hW]; exact below_alloc (below_alloc (Below.refl _ _) _) _
  have hs1 : W.heap.size = w.heap.size + 2 := by rw [← hW]; simp
  have c_0 : W.cell? ⟨w.heap.size, 0, none⟩ = some (.slice A0 x.nm.length c0) := by rw [← hW]; simp [go_sem]
  have e_0 : W.cell? ⟨w.heap.size + 1, 0, none⟩ = some (.slice B0 y.nm.length d0) := by rw [← hW]; simp [go_sem]
  have c_1 : W.cell? ⟨w.heap.size, 1, none⟩ = some (.slice A1 x.wd.length c1) := by rw [← hW]; simp [go_sem]
  have e_1 : W.cell? ⟨w.heap.size + 1, 1, none⟩ = some (.slice B1 y.wd.length d1) := by rw [← hW]; simp [go_sem]
  have c_2 : W.cell? ⟨w.heap.size, 2, none⟩ = some (.slice A2 x.fi.length c2) := by rw [← hW]; simp [go_sem]
  have e_2 : W.cell? ⟨w.heap.size + 1, 2, none⟩ = some (.slice B2 y.fi.length d2) := by rw [← hW]; simp [go_sem]
  have c_3 : W.cell? ⟨w.heap.size, 3, none⟩ = some (.slice A3 x.li.length c3) := by rw [← hW]; simp [go_sem]
  have e_3 : W.cell? ⟨w.heap.size + 1, 3, none⟩ = some (.slice B3 y.li.length d3) := by rw [← hW]; simp [go_sem]
  have z1 : w.heap.size < W.heap.size := by omega
  have z2 : w.heap.size + 1 < W.heap.size := by omega
  have HX := Lib.hid (show Bx W w.heap.size x A0 c0 A1 c1 A2 c2 A3 c3 from ⟨c_0, c_1, c_2, c_3, z1⟩)
  have HY := Lib.hid (show Bx W (w.heap.size + 1) y B0 d0 B1 d1 B2 d2 B3 d3 from ⟨e_0, e_1, e_2, e_3, z2⟩)
  have HW := Lib.hid hW
  have HB := Lib.hid hb1
  have G0 : ∀ p : BelowBy W, Below w.heap.size w p.W := fun p => HB.out.trans (p.h.mono HB.out.size)
  have HG := Lib.hid G0
  have f0 : ∀ p : BelowBy W, p.W.cell? ⟨w.heap.size, 0, none⟩ = some (.slice A0 x.nm.length c0) := fun p => p.cell c_0
  have g0 : ∀ p : BelowBy W, p.W.cell? ⟨w.heap.size + 1, 0, none⟩ = some (.slice B0 y.nm.length d0) := fun p => p.cell e_0
  have f1 : ∀ p : BelowBy W, p.W.cell? ⟨w.heap.size, 1, none⟩ = some (.slice A1 x.wd.length c1) := fun p => p.cell c_1
  have g1 : ∀ p : BelowBy W, p.W.cell? ⟨w.heap.size + 1, 1, none⟩ = some (.slice B1 y.wd.length d1) := fun p => p.cell e_1
  have f2 : ∀ p : BelowBy W, p.W.cell? ⟨w.heap.size, 2, none⟩ = some (.slice A2 x.fi.length c2) := fun p => p.cell c_2
  have g2 : ∀ p : BelowBy W, p.W.cell? ⟨w.heap.size + 1, 2, none⟩ = some (.slice B2 y.fi.length d2) := fun p => p.cell e_2
  have f3 : ∀ p : BelowBy W, p.W.cell? ⟨w.heap.size, 3, none⟩ = some (.slice A3 x.li.length c3) := fun p => p.cell c_3
  have g3 : ∀ p : BelowBy W, p.W.cell? ⟨w.heap.size + 1, 3, none⟩ = some (.slice B3 y.li.length d3) := fun p => p.cell e_3
  clear hW hb1 hs1 z1 z2 G0 c_0 c_1 c_2 c_3 e_0 e_1 e_2 e_3
  have cases3 : (mayB x = false) ∨ (mayB x = true ∧ mayB y = false) ∨ (mayB x = true ∧ mayB y = true ∧ bgB x y = false) ∨ (mayB x = true ∧ mayB y = true ∧ bgB x y = true) := by
    generalize mayB x = a
    generalize mayB y = b
    generalize bgB x y = c
    cases a <;> cases b <;> cases c <;> simp
  rcases cases3 with hx | ⟨hx, hy⟩ | ⟨hx, hy, hg⟩ | ⟨hx, hy, hg⟩
  all_goals
    try rw [hx] at q0 q1
    try rw [hy] at q0 q2
    try rw [hg] at q0
    try have q3' := q3 hx
    try rw [hg] at q3'
    try have HQ3 := Lib.hid q3'
    try clear q3'
    simp only [Bool.true_and, Bool.false_and] at q0
    have HQ0 := Lib.hid q0
    have HQ1 := Lib.hid q1
    have HQ2 := Lib.hid q2
    try have HMx := Lib.hid hx
    try have HMy := Lib.hid hy
    clear q0 q1 q2 q3
    try clear hx
    try clear hy
    try clear hg
    go_enter Tryd.func5, Tryd.ntmps5
    go_upto_region 1 with fail
    rw [HW.out]
    refine region_below (by kernel_rfl) (by kernel_rfl) ?_
    repeat (quiet_step (with_reducible first | exact call_below _ (HQ0.out _ (HG.out _)) | exact call_below _ (HQ1.out _ (HG.out _)) | exact call_below _ (HQ2.out _ (HG.out _)) | exact call_below _ (HQ3.out _ (HG.out _))))
    refine wpQuiet_nil ?_
    rintro _ ⟨p, rfl⟩
    have HB2 := Lib.hid (HG.out p)
    have HX2 := Lib.hid (HX.out.below p.h)
    have HY2 := Lib.hid (HY.out.below p.h)
    generalize p.W = w2 at *
    clear f0 f1 f2 f3 g0 g1 g2 g3
    have a0 := HY2.out.k0
    have a1 := HY2.out.k1
    have a2 := HY2.out.k2
    have a3 := HY2.out.k3
    go_wp2_with fail
    clear a0 a1 a2 a3
    by_cases hgood : mayB y = true ∧ 0 ≤ t
    · have HMY := Lib.hid ((may_iff y).1 hgood.1)
      have HGood := Lib.hid hgood
      clear hgood
      refine (cut_laid y B0 d0 B1 d1 B2 d2 B3 d3 t w2 (HJ.out.below HB2.out) HMY.out HGood.out.2).mono ?_
      rintro e w3 ⟨E0, m0, E1, m1, E2, m2, E3, m3, rfl, hb3, hK⟩
      have hbg := bgB_cut y (untilN y.li t)
      have hmc := (may_iff _).2 (HMY.out.cut (untilN y.li t))
      generalize cutX y (untilN y.li t) = z at hK hbg hmc ⊢
      have HBg := Lib.hid hbg
      have HMc := Lib.hid hmc
      have HB3 := Lib.hid (HB2.out.trans (hb3.mono HB2.out.size))
      have HY3 := Lib.hid (HY2.out.below hb3)
      have HK := Lib.hid hK
      clear hb3 hK hbg hmc
      go_upto_region 4 with fail
      obtain ⟨W3, hW3⟩ : ∃ W, w3.alloc (Obj.cells #[Value.slice E0 z.nm.length m0, Value.slice E1 z.wd.length m1, Value.slice E2 z.fi.length m2, Value.slice E3 z.li.length m3] 26) = W := ⟨_, rfl⟩
      rw [hW3]
      obtain ⟨hx3, hb3⟩ := bx_alloc w3 z E0 m0 E1 m1 E2 m2 E3 m3 hW3
      have HB4 := Lib.hid (HB3.out.trans (hb3.mono HB3.out.size))
      have HY4 := Lib.hid (HY3.out.below hb3)
      have HK4 := Lib.hid (HK.out.below hb3)
      have HZ4 := Lib.hid hx3
      clear hW3 hb3 hx3
      have a0 := HY4.out.k0
      have a1 := HY4.out.k1
      have a2 := HY4.out.k2
      have a3 := HY4.out.k3
      have u0 := HZ4.out.k0
      have u1 := HZ4.out.k1
      have u2 := HZ4.out.k2
      have u3 := HZ4.out.k3
      go_wp2_with fail
      clear a0 a1 a2 a3 u0 u1 u2 u3
      have hfull := begins_full z E0 m0 E1 m1 E2 m2 E3 m3 y B0 d0 B1 d1 B2 d2 B3 d3 W3 HK4.out (HJ.out.below HB4.out)
      rw [HMc.out, HGood.out.1, HBg.out] at hfull
      refine hfull.mono ?_
      clear hfull
      rintro e w5 ⟨rfl, hb5⟩
      have HB5 := Lib.hid (HB4.out.trans (hb5.mono HB4.out.size))
      clear hb5
      go_wp2_with fail
      refine (awakeW_any w5).mono ?_
      rintro e w6 ⟨rfl, hb6⟩
      have HB6 := Lib.hid (HB5.out.trans (hb6.mono HB5.out.size))
      clear hb6
      go_wp2_with fail
      go_ret
      exact ⟨rfl, HB6.out⟩
    · have hb : mayB y = false ∨ t < 0 := by
        rcases Bool.eq_false_or_eq_true (mayB y) with h | h
        · right
          by_cases ht : t < 0
          · exact ht
          · exact absurd ⟨h, by omega⟩ hgood
        · exact Or.inl h
      refine (cut_bad y B0 d0 B1 d1 B2 d2 B3 d3 t w2 (HJ.out.below HB2.out) hb).mono ?_
      clear hgood hb
      rintro e w3 ⟨rfl, hb3⟩
      have HB3 := Lib.hid (HB2.out.trans (hb3.mono HB2.out.size))
      clear hb3
      go_upto_region 4 with fail
      obtain ⟨W3, hW3⟩ : ∃ W, w3.alloc (.cells #[.slice none 0 0, .slice none 0 0, .slice none 0 0, .slice none 0 0] 26) = W := ⟨_, rfl⟩
      rw [hW3]
      have hb3 : Below w3.heap.size w3 W3 := by rw [← hW3]; exact below_alloc (Below.refl _ _) _
      have HB4 := Lib.hid (HB3.out.trans (hb3.mono HB3.out.size))
      clear hW3 hb3
      go_wp2_with fail
      refine (awakeW_any W3).mono ?_
      rintro e w6 ⟨rfl, hb6⟩
      have HB6 := Lib.hid (HB4.out.trans (hb6.mono HB4.out.size))
      clear hb6
      go_wp2_with fail
      go_ret
      exact ⟨rfl, HB6.out⟩
end Go.Proofs.YtcbkgammlfjjoaaDoor
