/- Plain facts for the event laws: what filling a queue leaves, and what taking from it gives. No Go in it. -/
import Derived.Test.YtebcbjmdkbmnkaaEvPure
import Derived.Test.YtebcbjmdkbmnkaaEvAwake
namespace Go.Proofs.Ytebcbjmdkbmnkaa
set_option linter.unusedVariables false
set_option linter.unusedSimpArgs false
open Go.RowKit

theorem mask_range (z d : Int) (hd : 0 ≤ d) (hc : d < 9223372036854775808) : 0 ≤ bits .and .i64 z d ∧ bits .and .i64 z d ≤ d := by
  obtain ⟨c, rfl⟩ := Int.eq_ofNat_of_zero_le hd
  have h1 : (BitVec.ofInt 64 (c : Int)).toNat = c := by rw [BitVec.ofInt_natCast, BitVec.toNat_ofNat]; exact Nat.mod_eq_of_lt (by omega)
  have h2 : bits .and .i64 z (c : Int) = IntKind.i64.wrap (((BitVec.ofInt 64 z).toNat &&& c : Nat) : Int) := by
    show IntKind.i64.wrap ((BitVec.ofInt 64 z &&& BitVec.ofInt 64 (c : Int)).toNat : Int) = _
    rw [BitVec.toNat_and, h1]
  have h3 : (BitVec.ofInt 64 z).toNat &&& c ≤ c := Nat.and_le_right
  rw [h2, IntKind.wrap_i64]
  omega

/-- A slice of ints that is read. -/
def IntsAt (w : World) (A : Option Addr) (zs : List Int) : Prop := 0 < zs.length → ∃ b o, A = some ⟨b, o, none⟩ ∧ b < w.heap.size ∧ ∀ i, i < zs.length → w.cell? ⟨b, o + i, none⟩ = some (.int .i64 (zs.getD i 0))
theorem IntsAt.below {w w' : World} {A : Option Addr} {zs : List Int} (h : IntsAt w A zs) (hb : Below w.heap.size w w') : IntsAt w' A zs := by
  intro h0
  obtain ⟨b, o, rfl, hlt, hc⟩ := h h0
  exact ⟨b, o, rfl, Nat.lt_of_lt_of_le hlt hb.size, fun i hi => (hb.cell (p := ⟨b, o + i, none⟩) hlt).trans (hc i hi)⟩

/-- The k first events that 'mk' makes, as a heap. -/
def Filled (mk : Nat → Ev) (k : Nat) (L : List Ev) : Prop := Inv L ∧ L.Perm ((List.range k).map mk)
theorem Filled.nil (mk : Nat → Ev) : Filled mk 0 [] := ⟨Inv.nil, List.Perm.refl _⟩
theorem Filled.len {mk : Nat → Ev} {k : Nat} {L : List Ev} (h : Filled mk k L) : L.length = k := by have := h.2.length_eq; simpa using this
theorem Filled.mem {mk : Nat → Ev} {k : Nat} {L : List Ev} (h : Filled mk k L) {y : Ev} (hy : y ∈ L) : ∃ i, i < k ∧ y = mk i := by
  have := h.2.mem_iff.1 hy
  simp only [List.mem_map, List.mem_range] at this
  obtain ⟨i, hi, rfl⟩ := this
  exact ⟨i, hi, rfl⟩
theorem evAt_mem {L : List Ev} {i : Nat} (h : i < L.length) : evAt L i ∈ L := List.mem_of_getElem? (evAt_some h)

theorem Filled.put {mk : Nat → Ev} {k : Nat} {L : List Ev} (hm : ∀ i : Nat, (mk i).s = (i : Int) ∧ 0 ≤ (mk i).t ∧ (mk i).t ≤ 4611686018427387903 ∧ (mk i).a = false)
    (h : Filled mk k L) (hk : k < 4096) : putE 4096 L (mk k) = (0, pushL L (mk k)) ∧ Filled mk (k + 1) (pushL L (mk k)) := by
  have hl := h.len
  obtain ⟨h1, h2, h3, h4⟩ := hm k
  have hi : idxP (sameNo (mk k).f (mk k).s) L = -1 := by
    apply idxP_none
    intro i hi
    obtain ⟨j, hj, e⟩ := h.mem (evAt_mem hi)
    rw [e]
    unfold sameNo
    rw [(hm j).1, h1]
    simp only [Bool.and_eq_false_iff]
    right
    rw [beq_eq_false_iff_ne]
    omega
  refine ⟨?_, h.1.push _, ?_⟩
  · unfold putE
    rw [if_neg (by rw [h4]; simp; omega), hi, if_neg (by omega), if_neg (by omega), if_neg (by omega)]
  · refine (pushL_perm L _).trans ?_
    rw [List.range_succ, List.map_append]
    refine (List.Perm.cons _ h.2).trans ?_
    exact (List.perm_append_singleton _ _).symm

/-- One step of taking. -/
theorem take_step {L : List Ev} {n : Nat} (h : Inv L) (hl : L.length = n + 1) :
    evAt (popL L) n = evAt L 0 ∧ Inv (popL L).dropLast ∧ L.Perm (evAt L 0 :: (popL L).dropLast) ∧ (popL L).dropLast.length = n ∧ (∀ y ∈ (popL L).dropLast, LeE (evAt L 0) y) ∧ evAt L 0 ∈ L := by
  obtain ⟨h1, h2, h3, h4⟩ := popL_facts h hl
  refine ⟨h1, h2, h3, by rw [List.length_dropLast, popL_len, hl]; rfl, fun y hy => h4 y (h3.mem_iff.2 (List.mem_cons_of_mem _ hy)), evAt_mem (by omega)⟩

/-- What is left while events are taken out: each event's number is of its own, not seen yet, and its time is what its maker says. -/
def Left (mk : Nat → Ev) (n : Nat) (L : List Ev) (seen : List Bool) : Prop :=
  Inv L ∧ seen.length = n ∧ (L.map (·.s)).Nodup ∧ ∀ y ∈ L, ∃ i, i < n ∧ y = mk i ∧ seen[i]? = some false

theorem Left.start {mk : Nat → Ev} {n : Nat} {L : List Ev} (hm : ∀ i : Nat, (mk i).s = (i : Int)) (h : Filled mk n L) : Left mk n L (List.replicate n false) := by
  refine ⟨h.1, by simp, ?_, fun y hy => ?_⟩
  · have : (L.map (·.s)).Perm (((List.range n).map mk).map (·.s)) := h.2.map _
    rw [this.nodup_iff, List.map_map]
    have e : (List.range n).map ((·.s) ∘ mk) = (List.range n).map (fun i : Nat => (i : Int)) := List.map_congr_left (fun i _ => hm i)
    rw [e, List.nodup_iff_pairwise_ne, List.pairwise_map]
    exact (List.nodup_iff_pairwise_ne.1 List.nodup_range).imp (fun h => by omega)
  · obtain ⟨i, hi, rfl⟩ := h.mem hy
    exact ⟨i, hi, rfl, by simp [hi]⟩

theorem Left.take {mk : Nat → Ev} {n : Nat} {L : List Ev} {seen : List Bool} {m : Nat} (hm : ∀ i : Nat, (mk i).s = (i : Int)) (h : Left mk n L seen) (hl : L.length = m + 1) :
    ∃ i, i < n ∧ evAt L 0 = mk i ∧ seen[i]? = some false ∧ Left mk n (popL L).dropLast (seen.set i true) := by
  obtain ⟨h1, h2, h3, h4⟩ := h
  obtain ⟨t1, t2, t3, t4, t5, t6⟩ := take_step h1 hl
  obtain ⟨i, hi, e, hs⟩ := h4 _ t6
  refine ⟨i, hi, e, hs, t2, by simpa using h2, ?_, ?_⟩
  · have hp := (t3.map (·.s)).nodup_iff.1 h3
    exact (List.nodup_cons.1 hp).2
  · intro y hy
    obtain ⟨j, hj, ey, hsj⟩ := h4 y (t3.mem_iff.2 (List.mem_cons_of_mem _ hy))
    refine ⟨j, hj, ey, ?_⟩
    have hp := (t3.map (·.s)).nodup_iff.1 h3
    have hne : i ≠ j := by
      rintro rfl
      have := (List.nodup_cons.1 hp).1
      apply this
      rw [e]
      exact List.mem_map.2 ⟨y, hy, by rw [ey]⟩
    rw [List.getElem?_set_ne hne]
    exact hsj
end Go.Proofs.Ytebcbjmdkbmnkaa
