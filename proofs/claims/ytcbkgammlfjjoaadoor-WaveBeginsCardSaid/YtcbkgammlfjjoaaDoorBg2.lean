/- WaveBegins, walked. -/
import Derived.Test.YtcbkgammlfjjoaaDoorBg1
import Derived.Test.YtcbkgammlfjjoaaDoorSt2
namespace Go.Proofs.YtcbkgammlfjjoaaDoor
set_option linter.unusedVariables false
set_option linter.unusedSimpArgs false
open Go.RowKit Go.Proofs.YtcbkgammlfjjoaaDoorW.PrintWords Go.Proofs.YtcbkgammlfjjoaaDoorW.PrintLast Go.Proofs.YtcbkgammlfjjoaaDoorW.PrintMore
set_option maxRecDepth 100000 in
theorem begins_bad (x : WV) (A0 : Option Addr) (c0 : Nat) (A1 : Option Addr) (c1 : Nat) (A2 : Option Addr) (c2 : Nat) (A3 : Option Addr) (c3 : Nat) (y : WV) (B0 : Option Addr) (d0 : Nat) (B1 : Option Addr) (d1 : Nat) (B2 : Option Addr) (d2 : Nat) (B3 : Option Addr) (d3 : Nat) (w : World) (hI : WIn w x A0 c0 A1 c1 A2 c2 A3 c3) (hJ : WIn w y B0 d0 B1 d1 B2 d2 B3 d3)
    (hbad : (mayB x && mayB y) = false) :
    Calls Tryd.prog 24 #[wvV x A0 c0 A1 c1 A2 c2 A3 c3, wvV y B0 d0 B1 d1 B2 d2 B3 d3] w fun e w' => e = .returned (.bool false) ∧ Below w.heap.size w w' := by
  have HI := Lib.hid hI
  have HJ := Lib.hid hJ
  have hcx := fun W => fun h => check_any x A0 c0 A1 c1 A2 c2 A3 c3 W h
  have hcy := fun W => fun h => check_any y B0 d0 B1 d1 B2 d2 B3 d3 W h
  clear hI hJ
  generalize mayB x = mx at *
  generalize mayB y = my at *
  have HCx := Lib.hid hcx
  have HCy := Lib.hid hcy
  clear hcx hcy
  obtain ⟨W, hW⟩ : ∃ W, ((w.alloc (Obj.cells #[Value.slice A0 x.nm.length c0, Value.slice A1 x.wd.length c1, Value.slice A2 x.fi.length c2, Value.slice A3 x.li.length c3] 26)).alloc (Obj.cells #[Value.slice B0 y.nm.length d0, Value.slice B1 y.wd.length d1, Value.slice B2 y.fi.length d2, Value.slice B3 y.li.length d3] 26)) = W := ⟨_, rfl⟩
  have hb1 : Below w.heap.size w W := by rw [← hW]; exact below_alloc (below_alloc (Below.refl _ _) _) _
  have hs1 : W.heap.size = w.heap.size + 2 := by rw [← hW]; simp
  have c_0 : W.cell? ⟨w.heap.size, 0, none⟩ = some (.slice A0 x.nm.length c0) := by rw [← hW]; simp [go_sem]
  have e_0 : W.cell? ⟨w.heap.size + 1, 0, none⟩ = some (.slice B0 y.nm.length d0) := by rw [← hW]; simp [go_sem]
  have c_1 : W.cell? ⟨w.heap.size, 1, none⟩ = some (.slice A1 x.wd.length c1) := by rw [← hW]; simp [go_sem]
  have e_1 : W.cell? ⟨w.heap.size + 1, 1, none⟩ = some (.slice B1 y.wd.length d1) := by rw [← hW]; simp [go_sem]
  have c_2 : W.cell? ⟨w.heap.size, 2, none⟩ = some (.slice A2 x.fi.length c2) := by rw [← hW]; simp [go_sem]
  have e_2 : W.cell? ⟨w.heap.size + 1, 2, none⟩ = some (.slice B2 y.fi.length d2) := by rw [← hW]; simp [go_sem]
  have c_3 : W.cell? ⟨w.heap.size, 3, none⟩ = some (.slice A3 x.li.length c3) := by rw [← hW]; simp [go_sem]
  have e_3 : W.cell? ⟨w.heap.size + 1, 3, none⟩ = some (.slice B3 y.li.length d3) := by rw [← hW]; simp [go_sem]
  have HW := Lib.hid hW
  have HB := Lib.hid hb1
  clear hW hb1
  cases mx with
  | false =>
    go_enter Tryd.func24, Tryd.ntmps24
    go_wp2_with fail
    rw [HW.out]
    refine (HCx.out W (HI.out.below HB.out)).mono ?_
    rintro e w1 ⟨rfl, hb⟩
    have HB2 := Lib.hid (HB.out.trans (hb.mono HB.out.size))
    clear hb
    go_wp2_with fail
    go_ret
    exact ⟨rfl, HB2.out⟩
  | true =>
    cases my with
    | false =>
      go_enter Tryd.func24, Tryd.ntmps24
      go_wp2_with fail
      rw [HW.out]
      refine (HCx.out W (HI.out.below HB.out)).mono ?_
      rintro e w1 ⟨rfl, hb⟩
      obtain ⟨ya, yb⟩ := bcell2 hb
      have z1 : w.heap.size < W.heap.size := by omega
      have z2 : w.heap.size + 1 < W.heap.size := by omega
      have HB2 := Lib.hid (HB.out.trans (hb.mono HB.out.size))
      clear hb
      go_wp2_with fail
      refine (HCy.out w1 (HJ.out.below HB2.out)).mono ?_
      rintro e w2 ⟨rfl, hb⟩
      have HB3 := Lib.hid (HB2.out.trans (hb.mono HB2.out.size))
      clear hb
      go_wp2_with fail
      go_ret
      exact ⟨rfl, HB3.out⟩
    | true => cases hbad
theorem begins_full (x : WV) (A0 : Option Addr) (c0 : Nat) (A1 : Option Addr) (c1 : Nat) (A2 : Option Addr) (c2 : Nat) (A3 : Option Addr) (c3 : Nat) (y : WV) (B0 : Option Addr) (d0 : Nat) (B1 : Option Addr) (d1 : Nat) (B2 : Option Addr) (d2 : Nat) (B3 : Option Addr) (d3 : Nat) (w : World) (hI : WIn w x A0 c0 A1 c1 A2 c2 A3 c3) (hJ : WIn w y B0 d0 B1 d1 B2 d2 B3 d3) :
    Calls Tryd.prog 24 #[wvV x A0 c0 A1 c1 A2 c2 A3 c3, wvV y B0 d0 B1 d1 B2 d2 B3 d3] w fun e w' => e = .returned (.bool (mayB x && (mayB y && bgB x y))) ∧ Below w.heap.size w w' := by
  by_cases h : mayB x = true
  · have hM := (may_iff x).1 h
    exact begins_plain x A0 c0 A1 c1 A2 c2 A3 c3 y B0 d0 B1 d1 B2 d2 B3 d3 w hI hJ (by have := hM.n; omega) (by have := hM.n; have := hM.wd; omega) (by have := hM.n; have := hM.fi; omega)
  · rw [Bool.not_eq_true] at h
    have := begins_bad x A0 c0 A1 c1 A2 c2 A3 c3 y B0 d0 B1 d1 B2 d2 B3 d3 w hI hJ (by rw [h]; rfl)
    rw [h]
    exact this
theorem beginsR_any (x : WV) (A0 : Option Addr) (c0 : Nat) (A1 : Option Addr) (c1 : Nat) (A2 : Option Addr) (c2 : Nat) (A3 : Option Addr) (c3 : Nat) (y : WV) (B0 : Option Addr) (d0 : Nat) (B1 : Option Addr) (d1 : Nat) (B2 : Option Addr) (d2 : Nat) (B3 : Option Addr) (d3 : Nat) (w : World) (hI : WIn w x A0 c0 A1 c1 A2 c2 A3 c3) (hJ : WIn w y B0 d0 B1 d1 B2 d2 B3 d3) (hm : mayB x = true) :
    Calls Tryd.prog 25 #[wvV x A0 c0 A1 c1 A2 c2 A3 c3, wvV y B0 d0 B1 d1 B2 d2 B3 d3, .bool true] w fun e w' => e = .returned (.bool (bgB x y)) ∧ Below w.heap.size w w' := by
  have hM := (may_iff x).1 hm
  obtain ⟨k, hk⟩ := bg_f x.nm x.wd x.fi x.li y.nm y.wd y.fi y.li (by have := hM.n; omega) (by have := hM.n; have := hM.wd; omega) (by have := hM.n; have := hM.fi; omega) (by have := hI.b3; omega)
  exact silkwormwaves_Begins.calls k A0 c0 x.nm A1 c1 x.wd A2 c2 x.fi A3 c3 x.li B0 d0 y.nm B1 d1 y.wd B2 d2 y.fi B3 d3 y.li true (bgB x y) w hI.h0 hI.l0 hI.h1 hI.l1 hI.h2 hI.l2 hI.h3 hI.l3 hJ.h0 hJ.l0 hJ.h1 hJ.l1 hJ.h2 hJ.l2 hJ.h3 hJ.l3 hk
end Go.Proofs.YtcbkgammlfjjoaaDoor
