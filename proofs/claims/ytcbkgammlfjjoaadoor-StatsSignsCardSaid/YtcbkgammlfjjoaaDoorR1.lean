/- StatsRatios, walked. -/
import Derived.Test.YtcbkgammlfjjoaaDoorE2
namespace Go.Proofs.YtcbkgammlfjjoaaDoor
set_option linter.unusedVariables false
set_option linter.unusedSimpArgs false
open Go.RowKit Go.Proofs.YtcbkgammlfjjoaaDoorW.PrintWords Go.Proofs.YtcbkgammlfjjoaaDoorW.PrintLast Go.Proofs.YtcbkgammlfjjoaaDoorW.PrintMore

theorem sameF_self (a : Nat) : sameF a a = true := by unfold sameF; cases nanB a <;> simp
theorem sameF_nan {a b : Nat} (ha : nanB a = true) (hb : nanB b = true) : sameF a b = true := by unfold sameF; rw [ha, hb]; rfl
theorem same_fr {op : BinOp} {x y a b : Nat} (ha : FR op x y a) (hb : FR op x y b) : sameF a b = true := by
  rcases ha.2 with h1 | ⟨h1, h1'⟩
  · rcases hb.2 with h2 | ⟨h2, _⟩
    · rw [h1] at h2; injection h2 with h2; rw [h2]; exact sameF_self _
    · rw [h1] at h2; cases h2
  · rcases hb.2 with h2 | ⟨h2, h2'⟩
    · rw [h1] at h2; cases h2
    · exact sameF_nan h1' h2'
theorem ratios_any (a b : Int) (w : World) (ha0 : -9223372036854775808 ≤ a) (ha1 : a ≤ 9223372036854775807) (hb0 : -9223372036854775808 ≤ b) (hb1 : b ≤ 9223372036854775807) :
    Calls Tryd.prog 8 #[.int .i64 a, .int .i64 b] w fun e w' => e = .returned (.bool true) ∧ Below w.heap.size w w' := by
  have FA := Lib.hid (fun W => floated_any a W ha0 ha1)
  have FB := Lib.hid (fun W => floated_any b W hb0 hb1)
  clear ha0 ha1 hb0 hb1
  go_enter Tryd.func8, Tryd.ntmps8
  go_wp2_with fail
  refine (FA.out _).mono ?_
  rintro e w' ⟨x, m1, rfl, rfl, hx⟩
  have HX := Lib.hid hx
  clear hx
  go_wp2_with fail
  refine (FB.out _).mono ?_
  rintro e w' ⟨y, m2, rfl, rfl, hy⟩
  have HY := Lib.hid hy
  clear hy
  go_wp2_with fail
  refine (ratio_any x y _).mono ?_
  rintro e w' ⟨r, m3, rfl, rfl, hr⟩
  have HR := Lib.hid hr
  clear hr
  obtain ⟨q, m4, hq, hq2⟩ := run_fop (P := Tryd.prog) (op := .quo) rfl 42 x y (w.drewN (m1 + m2 + m3))
  have HQ := Lib.hid hq2
  clear hq2
  go_wp2_with fail
  have hs := fun W => same_any r q W HR.out.1 HQ.out.1
  rw [same_fr HR.out HQ.out] at hs
  refine (hs _).mono ?_
  clear hs
  rintro e w' ⟨rfl, rfl⟩
  go_wp2_with fail
  refine (awakeS_any _).mono ?_
  rintro e w' ⟨rfl, hb⟩
  go_wp2_with fail
  go_ret
  exact ⟨rfl, ⟨hb.os, hb.tape, hb.output, hb.size, hb.block⟩⟩
theorem wf64 {a : Int} (h : (Lit.int .i64 a).wf = true) : -9223372036854775808 ≤ a ∧ a ≤ 9223372036854775807 := by
  have h2 : decide (IntKind.i64.min ≤ a ∧ a ≤ IntKind.i64.max) = true := by simpa [Lit.wf] using h
  have h3 := of_decide_eq_true h2
  rw [show IntKind.i64.min = -9223372036854775808 from by decide, show IntKind.i64.max = 9223372036854775807 from by decide] at h3
  exact h3
theorem ratios_row (a b : Int) (w : World) (ha : (Lit.int .i64 a).wf = true) (hb : (Lit.int .i64 b).wf = true) :
    Calls Tryd.prog 8 #[.int .i64 a, .int .i64 b] w fun e w' => e = .returned (.bool true) ∧ Below w.heap.size w w' :=
  ratios_any a b w (wf64 ha).1 (wf64 ha).2 (wf64 hb).1 (wf64 hb).2
end Go.Proofs.YtcbkgammlfjjoaaDoor
