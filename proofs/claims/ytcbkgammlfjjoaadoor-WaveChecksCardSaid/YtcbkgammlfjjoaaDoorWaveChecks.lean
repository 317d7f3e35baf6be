/- WaveChecks, walked. -/
import Derived.Test.YtcbkgammlfjjoaaDoorAwakeW
import Derived.Test.YtcbkgammlfjjoaaDoorMayR
namespace Go.Proofs.YtcbkgammlfjjoaaDoor
set_option linter.unusedVariables false
set_option linter.unusedSimpArgs false
open Go.RowKit Go.Proofs.YtcbkgammlfjjoaaDoorW.PrintWords Go.Proofs.YtcbkgammlfjjoaaDoorW.PrintLast Go.Proofs.YtcbkgammlfjjoaaDoorW.PrintMore

set_option maxRecDepth 100000 in
theorem checks_any (x : WV) (A0 : Option Addr) (c0 : Nat) (A1 : Option Addr) (c1 : Nat) (A2 : Option Addr) (c2 : Nat) (A3 : Option Addr) (c3 : Nat) (w : World) (hI : WIn w x A0 c0 A1 c1 A2 c2 A3 c3) :
    Calls Tryd.prog 3 #[wvV x A0 c0 A1 c1 A2 c2 A3 c3] w fun e w' => e = .returned (.bool true) ∧ Below w.heap.size w w' := by
  have HI := Lib.hid hI
  have hck := fun W => fun h => check_any x A0 c0 A1 c1 A2 c2 A3 c3 W h
  have hmy := fun W => fun h => mayR_any x A0 c0 A1 c1 A2 c2 A3 c3 W h
  clear hI
  obtain ⟨W, hW⟩ : ∃ W, w.alloc (Obj.cells #[Value.slice A0 x.nm.length c0, Value.slice A1 x.wd.length c1, Value.slice A2 x.fi.length c2, Value.slice A3 x.li.length c3] 26) = W := ⟨_, rfl⟩
  have hb : Below w.heap.size w W := by rw [← hW]; exact below_alloc (Below.refl _ _) _
  have hs : w.heap.size < W.heap.size := by rw [← hW]; simp
  have a0 : W.cell? ⟨w.heap.size, 0, none⟩ = some (.slice A0 x.nm.length c0) := by rw [← hW]; simp [go_sem]
  have a1 : W.cell? ⟨w.heap.size, 1, none⟩ = some (.slice A1 x.wd.length c1) := by rw [← hW]; simp [go_sem]
  have a2 : W.cell? ⟨w.heap.size, 2, none⟩ = some (.slice A2 x.fi.length c2) := by rw [← hW]; simp [go_sem]
  have a3 : W.cell? ⟨w.heap.size, 3, none⟩ = some (.slice A3 x.li.length c3) := by rw [← hW]; simp [go_sem]
  have HW := Lib.hid hW
  have HB := Lib.hid hb
  have HS := Lib.hid hs
  clear hW hb hs
  cases hmx : mayB x
  all_goals
    rw [hmx] at hck hmy
    clear hmx
    have HCk := Lib.hid hck
    have HMy := Lib.hid hmy
    clear hck hmy
    go_enter Tryd.func3, Tryd.ntmps3
    go_wp2_with fail
    rw [HW.out]
    refine (HCk.out W (HI.out.below HB.out)).mono ?_
    rintro e w1 ⟨rfl, hb1⟩
    have e0 := (hb1.cell (p := ⟨w.heap.size, 0, none⟩) HS.out).trans a0
    have e1 := (hb1.cell (p := ⟨w.heap.size, 1, none⟩) HS.out).trans a1
    have e2 := (hb1.cell (p := ⟨w.heap.size, 2, none⟩) HS.out).trans a2
    have e3 := (hb1.cell (p := ⟨w.heap.size, 3, none⟩) HS.out).trans a3
    have HB1 := Lib.hid (HB.out.trans (hb1.mono HB.out.size))
    clear hb1
    go_wp2_with fail
    refine (HMy.out w1 (HI.out.below HB1.out)).mono ?_
    rintro e w2 ⟨rfl, hb2⟩
    have HB2 := Lib.hid (HB1.out.trans (hb2.mono HB1.out.size))
    clear hb2
    go_wp2_with fail
    refine (awakeW_any w2).mono ?_
    rintro e w3 ⟨rfl, hb3⟩
    have HB3 := Lib.hid (HB2.out.trans (hb3.mono HB2.out.size))
    clear hb3
    go_wp2_with fail
    go_ret
    exact ⟨rfl, HB3.out⟩
end Go.Proofs.YtcbkgammlfjjoaaDoor
