/- How gates that come in read. -/
import Derived.Test.YtonnmkhmhndalaaDoorMgF
namespace Go.Proofs.YtonnmkhmhndalaaDoor
set_option maxRecDepth 100000
set_option linter.unusedVariables false
set_option linter.unusedSimpArgs false
open Go.ChangeShapes Go.WideShapes Go.ChangeAt Go.RowKit Go.Joins Go.Deep Go.Proofs.YtonnmkhmhndalaaDoorW.PrintWords

section
variable {H : Type} {enc : TypeId × Value → H} {w : World} {base : Nat} {spare : Nat → Bool} {held : Bool}
theorem open_gate {n : Nat} {cs : List Value} {y : DataW H × List MemPlace} (hl : cs.length = 5) (h : DataW.trod enc Tryd.prog w base spare held n 71 cs = some y) : ∃ a : S71, k71.K w a cs ∧ True := by
  have c3 : Tryd.prog.cellsOf 3 = 1 := by kernel_rfl
  obtain ⟨xs, k, hk, hxy, _, hxl, hf⟩ := DataW.trod_struct Tryd.underlying71 h
  match cs, hl, xs, hxl with
  | [v0, v1, v2, v3, v4], _, [y0, y1, y2, y3, y4], _ =>
    have g0 := hf 0 _ rfl
    have g1 := hf 1 _ rfl
    have g2 := hf 2 _ rfl
    have g3 := hf 3 _ rfl
    have g4 := hf 4 _ rfl
    simp [c3] at g0 g1 g2 g3 g4
    obtain ⟨a0, e0, _⟩ := DataW.trod_int Tryd.underlying3 g0
    obtain ⟨a1, e1, _⟩ := DataW.trod_int Tryd.underlying3 g1
    obtain ⟨a2, e2, _⟩ := DataW.trod_int Tryd.underlying3 g2
    obtain ⟨a3, e3, _⟩ := DataW.trod_int Tryd.underlying3 g3
    obtain ⟨a4, e4, _⟩ := DataW.trod_int Tryd.underlying3 g4
    simp only [List.cons.injEq, and_true] at e0 e1 e2 e3 e4
    subst e0 e1 e2 e3 e4
    exact ⟨⟨a0, a1, a2, a3, a4⟩, k71_mk w ⟨a0, a1, a2, a3, a4⟩, trivial⟩
end
/-- gates that come in -/
theorem open_gates {H : Type} {enc : TypeId × Value → H} {w : World} {r : Reach} {b0 : Nat} {held : Bool} {v : Value} {d : DataW H} {p : List MemPlace} (hv : Value.okWide Tryd.prog w r b0 35 v)
    (h : DataW.Trod enc Tryd.prog w 0 (fun _ => true) held 35 v d p) (hw : (DataW.weights Tryd.prog 35 d).all (· ≤ reachBytes) = true) :
    ∃ gs A c, v = .slice A (List.length gs) c ∧ Kd.C k71 w A gs.length gs ∧ gs.length ≤ c := by
  have s71 : Tryd.prog.cellsOf 71 = 5 := by kernel_rfl
  obtain ⟨a, len, cap, rfl⟩ := okWide_slice Tryd.underlying35 hv
  obtain ⟨fuel, hf⟩ := h
  haveI : Inhabited S71 := ⟨z71⟩
  obtain ⟨A, c, l, e0, b0', C0, z0, _⟩ := open_rowN k71 _ Tryd.underlying35 s71 (by decide) (fun n cs y hl h _ => open_gate hl h) hf hw
  simp [Value.cells] at e0
  obtain ⟨rfl, rfl, rfl⟩ := e0
  exact ⟨l, _, _, rfl, C0, b0'⟩
end Go.Proofs.YtonnmkhmhndalaaDoor
