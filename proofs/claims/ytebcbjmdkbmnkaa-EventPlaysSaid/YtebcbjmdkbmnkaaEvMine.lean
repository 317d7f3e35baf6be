/- A queue that a law made for itself: what Put and Take leave of it. -/
import Derived.Test.YtebcbjmdkbmnkaaEvFill
import Derived.Laws.MakeOwn
namespace Go.Proofs.Ytebcbjmdkbmnkaa
set_option linter.unusedVariables false
set_option linter.unusedSimpArgs false
open Go.RowKit

theorem info4 : (Try.prog.info? 4).map (fun i => (i.zero, i.size, i.bytes)) = some (some (.bool false), 1, 1) := by kernel_rfl
def bcells (l : List Bool) : Array Value := (l.map Value.bool).toArray
theorem made_bools (n : Nat) : madeCells (Value.bool false).cells n = bcells (List.replicate n false) := by
  apply Array.ext
  · simp [size_madeCells, bcells]
  · intro i h1 h2
    simp [madeCells, bcells, Value.cells, Nat.mod_one]
theorem make_bools (n : Nat) (hn : n ≤ 281474976710656) (w : World) :
    (Instr.makeSlice 31 (.int .i64 (n : Int)) (.int .i64 (n : Int))).run Try.prog w = .ok (.slice (some ⟨w.heap.size, 0, none⟩) n n) (w.alloc (.cells (bcells (List.replicate n false)) 4)) := by
  obtain ⟨i, hi, hzz⟩ := Option.map_eq_some_iff.1 info4
  simp only [Prod.mk.injEq] at hzz
  obtain ⟨hz0, hz1, hz2⟩ := hzz
  have h := run_make (P := Try.prog) w 31 4 i _ Try.underlying31 hi hz0 .i64 .i64 (n : Int) (n : Int) (by omega) (by omega) (by rw [hz2]; omega) (by omega)
  rw [Int.toNat_natCast, hz1, Nat.mul_one, made_bools] at h
  exact h

/-- a queue of one's own, begun behind the block H -/
def MyQ (H : Nat) (w : World) (g : Nat) (lim : Int) (L : List Ev) : Prop := H ≤ g ∧ ∃ sv, QS w g lim L sv ∧ ∀ k, sv.ownBlock = some k → H ≤ k

/-- the same, and its row does not lie in block T -/
def MyQ2 (H T : Nat) (w : World) (g : Nat) (lim : Int) (L : List Ev) : Prop := H ≤ g ∧ ∃ sv, QS w g lim L sv ∧ (∀ k, sv.ownBlock = some k → H ≤ k) ∧ sv.ownBlock ≠ some T

theorem put_mine {w0 w : World} {g : Nat} {lim : Int} {L : List Ev} (t n f s : Int) (v : ByteArray) (a : Bool) (hp : 0 < lim) (hn : L.length ≤ lim) (hm : lim ≤ 4096) (hq : MyQ w0.heap.size w g lim L) (hb : Below w0.heap.size w0 w) (r : Int) (M : List Ev)
    (he : putE lim L ⟨t, n, v, f, s, a⟩ = (r, M)) :
    Calls Try.prog 10 #[.pointer (some ⟨g, 0, none⟩), .agg #[.int .i64 t, .int .i64 n, .string v, .int .i64 f, .int .i64 s, .bool a]] w fun e w' => e = .returned (.int .i64 r) ∧ MyQ w0.heap.size w' g lim M ∧ Below w0.heap.size w0 w' := by
  obtain ⟨hg, sv, h1, h2⟩ := hq
  refine (put_lit g lim L t n f s v a sv w hp hn hm h1).mono ?_
  rintro e w' ⟨rfl, hpost⟩
  rw [he] at hpost ⊢
  obtain ⟨sv', h3, h4, h5⟩ := hpost.fresh hb hg h2
  exact ⟨rfl, ⟨hg, sv', h3, h4⟩, h5⟩

/-- blocks that a take does not touch -/
def Stay (T : Nat) (w w' : World) : Prop := w.heap.size ≤ w'.heap.size ∧ ∀ k t cs, w.heap[k]? = some (.cells cs t (0, 0)) → (k = T ∨ t ≠ 30) → t ≠ 53 → w'.heap[k]? = some (.cells cs t (0, 0))

theorem take_mine {w0 w : World} {g T m : Nat} {lim : Int} {M : List Ev} (hp : 0 < lim) (hl : M.length = m + 1) (hm : m < 4096) (hq : MyQ2 w0.heap.size T w g lim M) (hb : Below w0.heap.size w0 w) (hi : Inv M) (x : Ev) (hx : evAt M 0 = x) :
    Calls Try.prog 11 #[.pointer (some ⟨g, 0, none⟩)] w fun e w' => e = .returned (.tuple #[.agg #[.int .i64 x.t, .int .i64 x.n, .string x.v, .int .i64 x.f, .int .i64 x.s, .bool x.a], .bool true]) ∧
      MyQ2 w0.heap.size T w' g lim (popL M).dropLast ∧ Below w0.heap.size w0 w' ∧ Stay T w w' := by
  obtain ⟨hg, sv, h1, h2, h3⟩ := hq
  obtain ⟨b, c, rfl, hh⟩ := h1.hq (by omega)
  refine (take_any g b c m lim M w hl hm hp hh).mono ?_
  rintro e w' ⟨rfl, hq', hk⟩
  have hbg := h2 b rfl
  have hbT : b ≠ T := fun h => h3 (by rw [← h]; rfl)
  refine ⟨?_, ⟨hg, _, hq'.qs, h2, h3⟩, ?_, hk.size, ?_⟩
  · rw [(popL_facts hi hl).1, hx]; rfl
  · exact Kp.below (S := fun k => w0.heap.size ≤ k) ((Kp.of_below hb _).trans (hk.mono (by rintro i (rfl | rfl) <;> assumption))) (fun _ h => h)
  · intro k t cs hc ht h53
    refine hk.blk hc ?_
    rintro (rfl | rfl)
    · rw [h1.1] at hc
      injection hc with hc
      injection hc with _ hc
      exact h53 hc.symm
    · rcases ht with ht | ht
      · exact hbT ht
      · obtain ⟨_, _, cur, hcu, _⟩ := hh.2
        rw [hcu] at hc
        injection hc with hc
        injection hc with _ hc
        exact ht hc.symm

theorem MyQ2.below {H T : Nat} {w w' : World} {g : Nat} {lim : Int} {L : List Ev} (h : MyQ2 H T w g lim L) (hb : Below w.heap.size w w') : MyQ2 H T w' g lim L := by
  obtain ⟨h1, sv, h2, h3, h4⟩ := h
  exact ⟨h1, sv, h2.below hb, h3, h4⟩

end Go.Proofs.Ytebcbjmdkbmnkaa
