/- The document's queue: Cancel and New, walked. -/
import Derived.Test.YtebcbjmdkbmnkaaEvRefP
namespace Go.Proofs.Ytebcbjmdkbmnkaa
set_option linter.unusedVariables false
set_option linter.unusedSimpArgs false
open Go.RowKit

theorem boxes2 (w : World) (c0 c1 : Array Value) (t0 t1 : TypeId) :
    Below w.heap.size w ((w.alloc (.cells c0 t0)).alloc (.cells c1 t1)) ∧
    ((w.alloc (.cells c0 t0)).alloc (.cells c1 t1)).heap.size = w.heap.size + 2 ∧
    ((w.alloc (.cells c0 t0)).alloc (.cells c1 t1)).heap[w.heap.size]? = some (.cells c0 t0 (0, 0)) ∧
    ((w.alloc (.cells c0 t0)).alloc (.cells c1 t1)).heap[w.heap.size + 1]? = some (.cells c1 t1 (0, 0)) := by
  refine ⟨by go_grown, by simp, ?_, ?_⟩
  · rw [Below.heap_alloc _ _ _ (by simp)]
    exact heap_alloc_new _ _
  · have := heap_alloc_new (w.alloc (.cells c0 t0)) (.cells c1 t1)
    simpa using this

set_option maxRecDepth 100000 in
set_option maxHeartbeats 1000000 in
theorem rnew_any (n : Int) (w : World) :
    Calls Try.prog 15 #[.int .i64 n] w fun e w' => (e = .returned (.tuple #[.agg #[.int .i64 (if n < 1 ∨ 4096 < n then 0 else n), .slice none 0 0], .int .i64 (if n < 1 ∨ 4096 < n then 1 else 0)])) ∧ Below w.heap.size w w' := by
  have hz : ∀ a : Int, (w.alloc (.cells #[.int .i64 a, .slice none 0 0] 42)).heap[w.heap.size]? = some (.cells #[.int .i64 a, .slice none 0 0] 42 (0, 0)) := fun a => heap_alloc_new _ _
  have Hz := Lib.hid hz
  clear hz
  by_cases h1 : n < 1
  · rw [if_pos (.inl h1), if_pos (.inl h1)]
    go_enter Try.func15, Try.ntmps15
    go_wp2
    refine bodyPost_ret (res_ct rfl _ _ w.heap.size 42 _ (0, 0) _ rfl (Hz.out _) Try.underlying42 rfl (size42 _ _)) rfl ?_
    exact ⟨rfl, by go_grown⟩
  · have d1 : decide (n < 1) = false := by simpa using h1
    by_cases h2 : 4096 < n
    · rw [if_pos (.inr h2), if_pos (.inr h2)]
      go_enter Try.func15, Try.ntmps15
      go_wp2
      refine bodyPost_ret (res_ct rfl _ _ w.heap.size 42 _ (0, 0) _ rfl (Hz.out _) Try.underlying42 rfl (size42 _ _)) rfl ?_
      exact ⟨rfl, by go_grown⟩
    · have d2 : decide (4096 < n) = false := by simpa using h2
      rw [if_neg (by omega), if_neg (by omega)]
      go_enter Try.func15, Try.ntmps15
      go_wp2
      refine bodyPost_ret (res_ct rfl _ _ w.heap.size 42 _ (0, 0) _ rfl (Hz.out _) Try.underlying42 rfl (size42 _ _)) rfl ?_
      exact ⟨rfl, by go_grown⟩

/-- what Cancel leaves -/
def RCan (w : World) (lim : Int) (L : List Ev) (f s : Int) (v : Value) (e : Ending) (w' : World) : Prop :=
  ∃ v', e = .returned (.tuple #[.agg #[.int .i64 lim, v'], .bool (decide (0 ≤ idxP (sameNo f s) L))]) ∧ Below w.heap.size w w' ∧ ((idxP (sameNo f s) L < 0 ∧ v' = v) ∨ (0 ≤ idxP (sameNo f s) L ∧ OR w.heap.size w' v' (L.eraseIdx (idxP (sameNo f s) L).toNat)))

set_option maxRecDepth 100000 in
set_option maxHeartbeats 2000000 in
theorem rcancel_any (lim f s : Int) (A : Option Addr) (n c : Nat) (L : List Ev) (w : World) (hL : L.length = n) (hn : n ≤ 4096) (hR : Rd w A L) :
    Calls Try.prog 30 #[.agg #[.int .i64 lim, .slice A n c], .int .i64 f, .int .i64 s] w (RCan w lim L f s (.slice A n c)) := by
  have HR := Lib.hid hR
  have HL := Lib.hid hL
  clear hR hL
  have hb3 := boxes2 w #[.int .i64 lim, .slice A n c] #[.int .i64 0, .slice none 0 0] 42 42
  have Hb3 := Lib.hid hb3
  clear hb3
  go_enter Try.func30, Try.ntmps30
  go_wp2_with fail
  have hcl := find_any lim f s A n c L _ HL.out (by omega) (HR.out.below Hb3.out.1)
  generalize ((w.alloc (.cells #[.int .i64 lim, .slice A n c] 42)).alloc (.cells #[.int .i64 0, .slice none 0 0] 42)) = W at *
  with_reducible refine hcl.mono ?_
  clear hcl
  rintro e w1 ⟨rfl, hb1⟩
  obtain ⟨hbb, hbs, hx0, hx2⟩ := Hb3.out
  have hb2 := hbb.trans (hb1.mono hbb.size)
  have hr1 := HR.out.below hb2
  have hs2 := hb1.size
  replace hx0 := (hb1.block _ (by omega)).trans hx0
  replace hx2 := (hb1.block _ (by omega)).trans hx2
  have y0 := blk_cell hx0 0
  have y1 := blk_cell hx0 1
  have z0 := blk_cell hx2 0
  have z1 := blk_cell hx2 1
  have g0 := blk_frozen hx2 0
  have g1 := blk_frozen hx2 1
  have HR1 := Lib.hid hr1
  have Hb2 := Lib.hid hb2
  have Hx2 := Lib.hid hx2
  have Hs := Lib.hid (show w.heap.size + 2 ≤ w1.heap.size by omega)
  clear hr1 hb2 hx0 hx2 hb1 hbb hbs hs2 Hb3 HR
  have hrg := idxP_range (sameNo f s) L
  by_cases hi : idxP (sameNo f s) L < 0
  · have hd : decide (idxP (sameNo f s) L < 0) = true := by simpa using hi
    have hi2 : Hid (idxP (sameNo f s) L < 0) := hi
    clear hi hrg
    go_wp2
    refine bodyPost_ret (res_ct rfl _ _ (w.heap.size + 1) 42 _ (0, 0) _ rfl (res_done Hx2.out) Try.underlying42 rfl (size42 _ _)) rfl ?_
    exact ⟨_, by rw [show decide (0 ≤ idxP (sameNo f s) L) = false from by simpa using hi2.out]; rfl, ((Hb2.out.setCell (p := ⟨w.heap.size + 1, 0, none⟩) (Nat.le_add_right _ _) _).setCell (p := ⟨w.heap.size + 1, 1, none⟩) (Nat.le_add_right _ _) _), .inl ⟨hi2.out, rfl⟩⟩
  · have hd : decide (idxP (sameNo f s) L < 0) = false := by simpa using hi
    obtain ⟨k, hk⟩ := Int.eq_ofNat_of_zero_le (show 0 ≤ idxP (sameNo f s) L by omega)
    rw [hk] at hrg hd
    have hkn : k < n := by have := HL.out; omega
    have Hk := Lib.hid hk
    clear hi
    rw [hk]
    clear hk
    have hwo := without_any lim k A n c L w1 HL.out (by omega) hkn HR1.out
    have Hwo := Lib.hid hwo
    clear hwo hrg
    go_wp2_with fail
    have hwo := Hwo.out
    with_reducible refine hwo.mono ?_
    clear hwo Hwo
    rintro e w2 ⟨v, rfl, hv, hb4⟩
    obtain ⟨Av, cv, rfl⟩ := own_slice' hv
    have hs1 := Hs.out
    have hx2 := (hb4.block (w.heap.size + 1) (by omega)).trans Hx2.out
    clear y0 y1 z0 z1 g0 g1
    have z0 := blk_cell hx2 0
    have z1 := blk_cell hx2 1
    have g0 := blk_frozen hx2 0
    have g1 := blk_frozen hx2 1
    have Hv := Lib.hid hv
    have Hb4 := Lib.hid hb4
    have HX2 := Lib.hid hx2
    clear hv hb4 hx2 hs1
    go_wp2
    refine bodyPost_ret (res_ct rfl _ _ (w.heap.size + 1) 42 _ (0, 0) _ rfl (res_done HX2.out) Try.underlying42 rfl (size42 _ _)) rfl ?_
    have hne : ∀ k', k' < w1.heap.size → some k' ≠ (Value.slice Av (L.eraseIdx k).length cv).ownBlock := fun k' hk' e => by have := own_base Hv.out _ e.symm; omega
    have hs1 := Hs.out
    refine ⟨_, by rw [Hk.out, show decide (0 ≤ (k : Int)) = true from by simp]; rfl, (((Hb2.out.trans (Hb4.out.mono Hb2.out.size)).setCell (p := ⟨w.heap.size + 1, 0, none⟩) (Nat.le_add_right _ _) _).setCell (p := ⟨w.heap.size + 1, 1, none⟩) (Nat.le_add_right _ _) _), .inr ⟨by rw [Hk.out]; omega, ?_⟩⟩
    rw [Hk.out, Int.toNat_natCast]
    exact own_setCell' (own_setCell' (own_lower Hv.out (by omega)) (hne _ (by show w.heap.size + 1 < _; omega)) _) (hne _ (by show w.heap.size + 1 < _; omega)) _
end Go.Proofs.Ytebcbjmdkbmnkaa
