/- WaveSteps, walked: the guards. -/
import Derived.Test.YtcbkgammlfjjoaaDoorSt1
import Derived.Test.YtcbkgammlfjjoaaDoorAwakeW
import Derived.Test.YtcbkgammlfjjoaaDoorMayR
namespace Go.Proofs.YtcbkgammlfjjoaaDoor
set_option linter.unusedVariables false
set_option linter.unusedSimpArgs false
open Go.RowKit Go.Proofs.YtcbkgammlfjjoaaDoorW.PrintWords Go.Proofs.YtcbkgammlfjjoaaDoorW.PrintLast Go.Proofs.YtcbkgammlfjjoaaDoorW.PrintMore

theorem OwnIn.cut {w0 w1 w : World} {x : WV} {n : Nat} {v0 v1 v2 v3 : Value} {A0 : Option Addr} {c0 : Nat} {A1 : Option Addr} {c1 : Nat} {A2 : Option Addr} {c2 : Nat} {A3 : Option Addr} {c3 : Nat}
    (h : OwnIn w0 w x (x.li.take n) v0 v1 v2 v3) (hI : WIn w1 x A0 c0 A1 c1 A2 c2 A3 c3) :
    ∃ A0 c0 A1 c1 A2 c2 A3 c3, v0 = .slice A0 (cutX x n).nm.length c0 ∧ v1 = .slice A1 (cutX x n).wd.length c1 ∧ v2 = .slice A2 (cutX x n).fi.length c2 ∧ v3 = .slice A3 (cutX x n).li.length c3 ∧ WIn w (cutX x n) A0 c0 A1 c1 A2 c2 A3 c3 := by
  refine h.win (y := cutX x n) rfl hI.z0 hI.z2 (fun c hc => hI.z3 c (List.mem_of_mem_take hc)) ?_
  have := hI.b3
  have h2 : (x.li.take n).length ≤ x.li.length := by rw [List.length_take]; omega
  omega
/-- a cut, its answer laid -/
theorem cut_laid (x : WV) (A0 : Option Addr) (c0 : Nat) (A1 : Option Addr) (c1 : Nat) (A2 : Option Addr) (c2 : Nat) (A3 : Option Addr) (c3 : Nat) (t : Int) (w : World) (hI : WIn w x A0 c0 A1 c1 A2 c2 A3 c3) (hm : May x) (ht : 0 ≤ t) :
    Calls Tryd.prog 19 #[wvV x A0 c0 A1 c1 A2 c2 A3 c3, .int .i64 t] w fun e w' => ∃ B0 d0 B1 d1 B2 d2 B3 d3, e = .returned (.tuple #[wvV (cutX x (untilN x.li t)) B0 d0 B1 d1 B2 d2 B3 d3, .int .i64 0]) ∧ Below w.heap.size w w' ∧ WIn w' (cutX x (untilN x.li t)) B0 d0 B1 d1 B2 d2 B3 d3 := by
  refine (cut_ok x A0 c0 A1 c1 A2 c2 A3 c3 t w hI ((may_iff x).2 hm) ht).mono ?_
  rintro e w' ⟨v0, v1, v2, v3, rfl, hb, ho⟩
  obtain ⟨B0, d0, B1, d1, B2, d2, B3, d3, rfl, rfl, rfl, rfl, h⟩ := ho.cut hI
  exact ⟨B0, d0, B1, d1, B2, d2, B3, d3, rfl, hb, h⟩
/-- all values, the answer laid -/
theorem at_laid (x : WV) (A0 : Option Addr) (c0 : Nat) (A1 : Option Addr) (c1 : Nat) (A2 : Option Addr) (c2 : Nat) (A3 : Option Addr) (c3 : Nat) (t : Int) (w : World) (hI : WIn w x A0 c0 A1 c1 A2 c2 A3 c3) (hm : May x) (ht : 0 ≤ t) :
    Calls Tryd.prog 20 #[wvV x A0 c0 A1 c1 A2 c2 A3 c3, .int .i64 t] w fun e w' => ∃ B d, e = .returned (.tuple #[.slice B (atF x t).length d, .int .i64 0]) ∧ Below w.heap.size w w' ∧ Kd.C Kd.string w' B (atF x t).length (atF x t) ∧ AF B ∧ (atF x t).length ≤ d := by
  refine (at_ok x A0 c0 A1 c1 A2 c2 A3 c3 t w hI ((may_iff x).2 hm) ht).mono ?_
  rintro e w' ⟨v, rfl, hb, hv⟩
  obtain ⟨B, d, rfl, hl, hC, hA⟩ := R_in hv
  exact ⟨B, d, rfl, hb, hC, hA, hl⟩
/-- a waveform in a box -/
structure Bx (W : World) (b : Nat) (x : WV) (A0 : Option Addr) (c0 : Nat) (A1 : Option Addr) (c1 : Nat) (A2 : Option Addr) (c2 : Nat) (A3 : Option Addr) (c3 : Nat) : Prop where
  k0 : W.cell? ⟨b, 0, none⟩ = some (.slice A0 x.nm.length c0)
  k1 : W.cell? ⟨b, 1, none⟩ = some (.slice A1 x.wd.length c1)
  k2 : W.cell? ⟨b, 2, none⟩ = some (.slice A2 x.fi.length c2)
  k3 : W.cell? ⟨b, 3, none⟩ = some (.slice A3 x.li.length c3)
  s : b < W.heap.size
theorem Bx.below {W W' : World} {b : Nat} {x : WV} {A0 : Option Addr} {c0 : Nat} {A1 : Option Addr} {c1 : Nat} {A2 : Option Addr} {c2 : Nat} {A3 : Option Addr} {c3 : Nat} (h : Bx W b x A0 c0 A1 c1 A2 c2 A3 c3) (hb : Below W.heap.size W W') : Bx W' b x A0 c0 A1 c1 A2 c2 A3 c3 :=
  ⟨(hb.cell (p := ⟨b, 0, none⟩) h.s).trans h.k0, (hb.cell (p := ⟨b, 1, none⟩) h.s).trans h.k1, (hb.cell (p := ⟨b, 2, none⟩) h.s).trans h.k2, (hb.cell (p := ⟨b, 3, none⟩) h.s).trans h.k3, Nat.lt_of_lt_of_le h.s hb.size⟩
theorem bx_alloc (w : World) (x : WV) (A0 : Option Addr) (c0 : Nat) (A1 : Option Addr) (c1 : Nat) (A2 : Option Addr) (c2 : Nat) (A3 : Option Addr) (c3 : Nat) {W : World} (hW : w.alloc (Obj.cells #[Value.slice A0 x.nm.length c0, Value.slice A1 x.wd.length c1, Value.slice A2 x.fi.length c2, Value.slice A3 x.li.length c3] 26) = W) :
    Bx W w.heap.size x A0 c0 A1 c1 A2 c2 A3 c3 ∧ Below w.heap.size w W := by
  refine ⟨⟨?_, ?_, ?_, ?_, ?_⟩, ?_⟩
  · rw [← hW]; simp [go_sem]
  · rw [← hW]; simp [go_sem]
  · rw [← hW]; simp [go_sem]
  · rw [← hW]; simp [go_sem]
  · rw [← hW]; simp
  · rw [← hW]; exact below_alloc (Below.refl _ _) _

set_option maxRecDepth 100000 in
theorem steps_bad (x : WV) (A0 : Option Addr) (c0 : Nat) (A1 : Option Addr) (c1 : Nat) (A2 : Option Addr) (c2 : Nat) (A3 : Option Addr) (c3 : Nat) (a b : Int) (w : World) (hI : WIn w x A0 c0 A1 c1 A2 c2 A3 c3) (hbad : mayB x = false ∨ a < 0 ∨ b < 0 ∨ 1152921504606846976 < a) :
    Calls Tryd.prog 6 #[wvV x A0 c0 A1 c1 A2 c2 A3 c3, .int .i64 a, .int .i64 b] w fun e w' => e = .returned (.bool true) ∧ Below w.heap.size w w' := by
  have HI := Lib.hid hI
  have hmy := fun W => fun h => mayR_any x A0 c0 A1 c1 A2 c2 A3 c3 W h
  clear hI
  obtain ⟨W, hW⟩ : ∃ W, w.alloc (Obj.cells #[Value.slice A0 x.nm.length c0, Value.slice A1 x.wd.length c1, Value.slice A2 x.fi.length c2, Value.slice A3 x.li.length c3] 26) = W := ⟨_, rfl⟩
  obtain ⟨hx, hb⟩ := bx_alloc w x A0 c0 A1 c1 A2 c2 A3 c3 hW
  have a0 := hx.k0
  have a1 := hx.k1
  have a2 := hx.k2
  have a3 := hx.k3
  have HW := Lib.hid hW
  have HB := Lib.hid hb
  clear hW hb hx
  have cases4 : mayB x = false ∨ (mayB x = true ∧ decide (a < 0) = true) ∨ (mayB x = true ∧ decide (a < 0) = false ∧ decide (b < 0) = true) ∨ (mayB x = true ∧ decide (a < 0) = false ∧ decide (b < 0) = false ∧ decide (1152921504606846976 < a) = true) := by
    rcases Bool.eq_false_or_eq_true (mayB x) with hmb | hmb
    case inr => exact Or.inl hmb
    case inl =>
      rw [hmb] at hbad ⊢
      right
      by_cases h1 : a < 0
      · exact Or.inl ⟨rfl, decide_eq_true h1⟩
      · right
        by_cases h2 : b < 0
        · exact Or.inl ⟨rfl, decide_eq_false h1, decide_eq_true h2⟩
        · rcases hbad with h | h | h | h
          · cases h
          · exact absurd h h1
          · exact absurd h h2
          · exact Or.inr ⟨rfl, decide_eq_false h1, decide_eq_false h2, decide_eq_true h⟩
  clear hbad
  rcases cases4 with hmx | ⟨hmx, h1⟩ | ⟨hmx, h1, h2⟩ | ⟨hmx, h1, h2, h3⟩
  all_goals
    rw [hmx] at hmy
    clear hmx
    have HMy := Lib.hid hmy
    clear hmy
    go_enter Tryd.func6, Tryd.ntmps6
    go_wp2_with fail
    rw [HW.out]
    refine (HMy.out W (HI.out.below HB.out)).mono ?_
    rintro e w2 ⟨rfl, hb2⟩
    have HB2 := Lib.hid (HB.out.trans (hb2.mono HB.out.size))
    clear hb2
    go_wp2_with fail
    refine (awakeW_any w2).mono ?_
    rintro e w3 ⟨rfl, hb3⟩
    have HB3 := Lib.hid (HB2.out.trans (hb3.mono HB2.out.size))
    clear hb3
    go_wp2_with fail
    go_ret
    exact ⟨rfl, HB3.out⟩
end Go.Proofs.YtcbkgammlfjjoaaDoor
