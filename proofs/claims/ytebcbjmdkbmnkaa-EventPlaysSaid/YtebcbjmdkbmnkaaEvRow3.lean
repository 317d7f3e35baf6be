/- How a slice of calls that comes in reads. -/
import Derived.Test.YtebcbjmdkbmnkaaEvRow2
import Derived.Test.YtebcbjmdkbmnkaaEvPlays
import Derived.Deep.SlicePairs
namespace Go.Proofs.Ytebcbjmdkbmnkaa
set_option linter.unusedVariables false
set_option linter.unusedSimpArgs false
open Go.ChangeShapes Go.WideShapes Go.ChangeAt Go.RowKit Go.Joins Go.Deep

theorem open_op {H : Type} {enc : TypeId × Value → H} {w : World} {base : Nat} {spare : Nat → Bool} {held : Bool} {n : Nat} {cs : List Value} {x : DataW H × List MemPlace}
    (hl : cs.length = 7) (h : DataW.trod enc Try.prog w base spare held n 46 cs = some x) : ∃ o : OpC, cs = [.int .i64 o.k, .int .i64 o.e.t, .int .i64 o.e.n, .string o.e.v, .int .i64 o.e.f, .int .i64 o.e.s, .bool o.e.a] := by
  have c30 : Try.prog.cellsOf 30 = 6 := by kernel_rfl
  have c3 : Try.prog.cellsOf 3 = 1 := by kernel_rfl
  have c4 : Try.prog.cellsOf 4 = 1 := by kernel_rfl
  have c9 : Try.prog.cellsOf 9 = 1 := by kernel_rfl
  obtain ⟨xs, k, hk, hxy, _, hxl, hf⟩ := DataW.trod_struct Try.underlying46 h
  match cs, hl, xs, hxl with
  | [v0, v1, v2, v3, v4, v5, v6], _, [y0, y1], _ =>
    have g0 := hf 0 _ rfl
    have g1 := hf 1 _ rfl
    simp [c3, c30] at g0 g1
    obtain ⟨a0, e0, _⟩ := DataW.trod_int Try.underlying3 g0
    obtain ⟨ys, k2, hk2, hxy2, _, hyl, hf2⟩ := DataW.trod_struct Try.underlying30 g1
    match ys, hyl with
    | [z0, z1, z2, z3, z4, z5], _ =>
      have p0 := hf2 0 _ rfl
      have p1 := hf2 1 _ rfl
      have p2 := hf2 2 _ rfl
      have p3 := hf2 3 _ rfl
      have p4 := hf2 4 _ rfl
      have p5 := hf2 5 _ rfl
      simp [c3, c4, c9] at p0 p1 p2 p3 p4 p5
      obtain ⟨a1, e1, _⟩ := DataW.trod_int Try.underlying3 p0
      obtain ⟨a2, e2, _⟩ := DataW.trod_int Try.underlying3 p1
      obtain ⟨a3, e3, _⟩ := DataW.trod_string Try.underlying9 p2
      obtain ⟨a4, e4, _⟩ := DataW.trod_int Try.underlying3 p3
      obtain ⟨a5, e5, _⟩ := DataW.trod_int Try.underlying3 p4
      obtain ⟨a6, e6, _⟩ := DataW.trod_bool Try.underlying4 p5
      simp only [List.cons.injEq, and_true] at e0 e1 e2 e3 e4 e5 e6
      subst e0 e1 e2 e3 e4 e5 e6
      exact ⟨⟨a0, ⟨a1, a2, a3, a4, a5, a6⟩⟩, rfl⟩

theorem open_ops {H : Type} {enc : TypeId × Value → H} {w : World} {base : Nat} {spare : Nat → Bool} {held : Bool} {r : Reach} {b0 : Nat} {v : Value} {d : DataW H} {p : List MemPlace}
    (hv : Value.okWide Try.prog w r b0 39 v) (h : DataW.Trod enc Try.prog w base spare held 39 v d p) : ∃ A n c zs, v = .slice A n c ∧ zs.length = n ∧ OpsAt w A zs := by
  obtain ⟨a, len, cap, rfl⟩ := okWide_slice Try.underlying39 hv
  obtain ⟨fuel, hf⟩ := h
  have c46 : Try.prog.cellsOf 46 = 7 := by kernel_rfl
  rcases open_slice Try.underlying39 hf with ⟨hcs, _⟩ | ⟨x, l, c, m, n, D, Pl, hcs, _, hl, hm, hmm, _, hx⟩
  · simp [Value.cells] at hcs
    obtain ⟨rfl, rfl, rfl⟩ := hcs
    exact ⟨none, 0, 0, [], rfl, rfl, fun h => by simp at h⟩
  · simp [Value.cells] at hcs
    obtain ⟨rfl, rfl, rfl⟩ := hcs
    have hle : len ≤ m := by rw [hmm]; split <;> omega
    have each : ∀ i, i < len → ∃ o : OpC, ∀ j u, ([.int .i64 o.k, .int .i64 o.e.t, .int .i64 o.e.n, .string o.e.v, .int .i64 o.e.f, .int .i64 o.e.s, .bool o.e.a] : List Value)[j]? = some u → w.cell? ((x.add (i * 7)).add j) = some u := by
      intro i hi
      obtain ⟨cs', h1, h2⟩ := hx i (by omega)
      rw [c46] at h1
      obtain ⟨_, hlen, hcell⟩ := World.cells?_some h1
      obtain ⟨o, rfl⟩ := open_op hlen h2
      refine ⟨o, fun j u hj => ?_⟩
      have hj7 : j < 7 := by have := (List.getElem?_eq_some_iff.1 hj).1; simpa using this
      rw [hcell j hj7]
      exact hj
    obtain ⟨q, hq⟩ := choose_lt each
    refine ⟨some x, len, cap, (List.range len).map q, rfl, by simp, fun h0 => ?_⟩
    have hlt : 0 < len := by simpa using h0
    have h1 := hq 0 hlt 0 _ rfl
    obtain ⟨b, o, sp⟩ := x
    have hsp : sp = none := by
      cases sp with
      | none => rfl
      | some q => simp [Addr.add, World.cell?] at h1; split at h1 <;> cases h1
    subst hsp
    have hadd : ∀ i j, ((⟨b, o, none⟩ : Addr).add (i * 7)).add j = ⟨b, o + i * 7 + j, none⟩ := by
      intro i j
      have e : ∀ (o' k : Nat), (⟨b, o', none⟩ : Addr).add k = ⟨b, o' + k, none⟩ := by intro o' k; unfold Addr.add; split <;> simp_all
      rw [e, e]
    refine ⟨b, o, rfl, World.block_lt_of_cell? w _ (by rw [hadd] at h1; exact h1), fun i hi => ?_⟩
    have hi2 : i < len := by simpa using hi
    have hz : ((List.range len).map q).getD i default = q i := by simp [List.getD_eq_getElem?_getD, hi2]
    rw [hz]
    have hc := hq i hi2
    simp only [hadd] at hc
    exact ⟨hc 0 _ rfl, hc 1 _ rfl, hc 2 _ rfl, hc 3 _ rfl, hc 4 _ rfl, hc 5 _ rfl, hc 6 _ rfl⟩
end Go.Proofs.Ytebcbjmdkbmnkaa
