/- How a slice of whole numbers that comes in reads. -/
import Derived.Test.YtebcbjmdkbmnkaaEvRow
import Derived.Test.YtebcbjmdkbmnkaaEvFill
namespace Go.Proofs.Ytebcbjmdkbmnkaa
set_option linter.unusedVariables false
set_option linter.unusedSimpArgs false
open Go.ChangeShapes Go.WideShapes Go.ChangeAt Go.RowKit Go.Joins Go.Deep

theorem open_nums {H : Type} {enc : TypeId × Value → H} {w : World} {base : Nat} {spare : Nat → Bool} {held : Bool} {r : Reach} {b0 : Nat} {v : Value} {d : DataW H} {p : List MemPlace}
    (hv : Value.okWide Try.prog w r b0 22 v) (h : DataW.Trod enc Try.prog w base spare held 22 v d p) : ∃ A n c zs, v = .slice A n c ∧ zs.length = n ∧ IntsAt w A zs := by
  obtain ⟨a, len, cap, rfl⟩ := okWide_slice Try.underlying22 hv
  obtain ⟨fuel, hf⟩ := h
  rcases open_ints Try.underlying22 Try.underlying3 (by kernel_rfl) hf with ⟨hcs, _⟩ | ⟨x, l, c, zs, hcs, _, hl, hm, hz, _, hcell, hwz⟩
  · simp [Value.cells] at hcs
    obtain ⟨rfl, rfl, rfl⟩ := hcs
    exact ⟨none, 0, 0, [], rfl, rfl, fun h => by simp at h⟩
  · simp [Value.cells] at hcs
    obtain ⟨rfl, rfl, rfl⟩ := hcs
    have hle : len ≤ zs.length := by rw [hz]; split <;> omega
    refine ⟨some x, len, cap, zs.take len, rfl, by simp; omega, fun h0 => ?_⟩
    have hlt : 0 < len := by simp at h0; omega
    have h1 := hcell 0 (by omega)
    obtain ⟨b, o, sp⟩ := x
    have hsp : sp = none := by
      cases sp with
      | none => rfl
      | some q => simp [Addr.add, World.cell?] at h1; split at h1 <;> cases h1
    subst hsp
    refine ⟨b, o, rfl, World.block_lt_of_cell? w _ (by rw [show ((⟨b, o, none⟩ : Addr).add 0) = ⟨b, o, none⟩ from rfl] at h1; exact h1), fun i hi => ?_⟩
    have hi2 : i < len := by simp at hi; omega
    have h2 := hcell i (by omega)
    rw [show ((⟨b, o, none⟩ : Addr).add i) = ⟨b, o + i, none⟩ from by unfold Addr.add; split <;> simp_all] at h2
    rw [h2]
    simp [List.getD_eq_getElem?_getD, List.getElem?_take, hi2]
end Go.Proofs.Ytebcbjmdkbmnkaa
