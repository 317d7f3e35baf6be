/- The walk of does: Min, and no call. -/
import Derived.Test.YtebcbjmdkbmnkaaEvDoesT
import Derived.BigRegion
namespace Go.Proofs.Ytebcbjmdkbmnkaa
set_option linter.unusedVariables false
set_option linter.unusedSimpArgs false
open Go.RowKit

set_option maxRecDepth 100000 in
set_option maxHeartbeats 2000000 in
theorem does_none (g : Nat) (lim k t m f s : Int) (v : ByteArray) (a : Bool) (L R : List Ev) (sv : Value) (A : Option Addr) (n c : Nat) (w : World) (hT : Two w g lim L sv R (.slice A n c)) (h1 : k ≠ 1) (h2 : k ≠ 2) (h3 : k ≠ 3) (h4 : k ≠ 4) :
    Calls Try.prog 16 #[.pointer (some ⟨g, 0, none⟩), .agg #[.int .i64 lim, .slice A n c], .agg #[.int .i64 k, .int .i64 t, .int .i64 m, .string v, .int .i64 f, .int .i64 s, .bool a]] w
      fun e w' => ∃ rv', e = .returned (.tuple #[.agg #[.int .i64 lim, rv'], .bool true]) ∧ DPost w g lim sv (.slice A n c) rv' w' := by
  have HT := Lib.hid hT
  have b1 : (k == 1) = false := by simpa using h1
  have b2 : (k == 2) = false := by simpa using h2
  have b3 : (k == 3) = false := by simpa using h3
  have b4 : (k == 4) = false := by simpa using h4
  have hb3 := boxes3 w #[.int .i64 lim, .slice A n c] #[.int .i64 k, .int .i64 t, .int .i64 m, .string v, .int .i64 f, .int .i64 s, .bool a] #[.int .i64 lim, .slice A n c] 42 46 42
  have Hb3 := Lib.hid hb3
  clear hb3 hT h1 h2 h3 h4
  go_enter Try.func16, Try.ntmps16
  go_wp2
  refine bodyPost_ret (res_ct rfl _ _ (w.heap.size + 2) 42 _ (0, 0) _ rfl Hb3.out.2.2.2.2 Try.underlying42 rfl (size42 _ _)) rfl ?_
  exact ⟨_, rfl, L, sv, R, HT.out.below Hb3.out.1, Kp.of_below Hb3.out.1 _, .inl rfl, fun k h => .inl h⟩

set_option maxRecDepth 100000 in
set_option maxHeartbeats 2000000 in
theorem does_min0 (g : Nat) (lim t m f s : Int) (v : ByteArray) (a : Bool) (sv : Value) (A : Option Addr) (c : Nat) (w : World) (hp : 0 < lim) (hm : lim ≤ 4096) (hT : Two w g lim [] sv [] (.slice A 0 c)) :
    Calls Try.prog 16 #[.pointer (some ⟨g, 0, none⟩), .agg #[.int .i64 lim, .slice A 0 c], .agg #[.int .i64 3, .int .i64 t, .int .i64 m, .string v, .int .i64 f, .int .i64 s, .bool a]] w
      fun e w' => ∃ rv', e = .returned (.tuple #[.agg #[.int .i64 lim, rv'], .bool true]) ∧ DPost w g lim sv (.slice A 0 c) rv' w' := by
  have HT := Lib.hid hT
  have hb3 := boxes3 w #[.int .i64 lim, .slice A 0 c] #[.int .i64 3, .int .i64 t, .int .i64 m, .string v, .int .i64 f, .int .i64 s, .bool a] #[.int .i64 0, .slice none 0 0] 42 46 42
  have Hb3 := Lib.hid hb3
  clear hb3 hT
  go_enter Try.func16, Try.ntmps16
  go_wp2_with fail
  have htk := min_empty g lim sv _ hp (HT.out.below Hb3.out.1).q
  unfold Ev.cs at htk
  dsimp only [ev0] at htk
  generalize (((w.alloc (.cells #[.int .i64 lim, .slice A 0 c] 42)).alloc (.cells #[.int .i64 3, .int .i64 t, .int .i64 m, .string v, .int .i64 f, .int .i64 s, .bool a] 46)).alloc (.cells #[.int .i64 0, .slice none 0 0] 42)) = W at *
  with_reducible refine htk.mono ?_
  clear htk
  rintro e w1 ⟨rfl, hb1⟩
  obtain ⟨hbb, hbs, hx0, hx1, hx2⟩ := Hb3.out
  have hbA : Below w1.heap.size w1 (w1.alloc (.cells #[.int .i64 0, .int .i64 0, .string ⟨#[]⟩, .int .i64 0, .int .i64 0, .bool false] 30)) := (Below.refl _ _).alloc (Nat.le_refl _) _
  have hs1 := hb1.size
  have hb2 := (hbb.trans (hb1.mono hbb.size)).trans (hbA.mono (by have := hbb.size; omega))
  replace hx0 := (hbA.block _ (by omega)).trans ((hb1.block _ (by omega)).trans hx0)
  replace hx2 := (hbA.block _ (by omega)).trans ((hb1.block _ (by omega)).trans hx2)
  have Hx0 := Lib.hid hx0
  have Hx2 := Lib.hid hx2
  have Hb2 := Lib.hid hb2
  have HT2 := Lib.hid (HT.out.below hb2)
  have hne1 : ¬ w.heap.size + 1 + 1 = w1.heap.size := by omega
  have hne2 : ¬ w1.heap.size = w.heap.size + 1 + 1 := by omega
  clear hx0 hx1 hx2 hb1 hb2 hbb hbs hbA hs1 Hb3
  have y0 := blk_cell Hx0.out 0
  have y1 := blk_cell Hx0.out 1
  go_wp2_with fail
  generalize (w1.alloc (.cells #[.int .i64 0, .int .i64 0, .string ⟨#[]⟩, .int .i64 0, .int .i64 0, .bool false] 30)) = w2 at *
  have z0 : w2.cell? ⟨w.heap.size + 1 + 1, 0, none⟩ = _ := blk_cell Hx2.out 0
  have z1 : w2.cell? ⟨w.heap.size + 1 + 1, 1, none⟩ = _ := blk_cell Hx2.out 1
  have g0 : w2.frozen? ⟨w.heap.size + 1 + 1, 0, none⟩ = _ := blk_frozen Hx2.out 0
  have g1 : w2.frozen? ⟨w.heap.size + 1 + 1, 1, none⟩ = _ := blk_frozen Hx2.out 1
  go_region
  all_goals
    have hdn := does_done (lim2 := lim) HT.out Hb2.out (Kp.refl _ w2) Hx2.out HT2.out.q (.inl rfl) HT2.out.r Cpl.nil HT.out.le (fun k h => .inl h)
    have Hdn := Lib.hid hdn
    clear hdn
    go_wp2
    refine bodyPost_ret (res_ct rfl _ _ (w.heap.size + 2) 42 _ (0, 0) _ rfl Hdn.out.1 Try.underlying42 rfl (size42 _ _)) rfl ?_
    exact ⟨_, rfl, Hdn.out.2.drew⟩

theorem min_two {w : World} {g : Nat} {lim : Int} {L R : List Ev} {sv rv : Value} {x : Ev} (hp : 0 < lim) (hm : lim ≤ 4096) (h : Two w g lim L sv R rv) (hl : 0 < L.length) (hx : evAt R 0 = x) :
    Calls Try.prog 18 #[.pointer (some ⟨g, 0, none⟩)] w fun e w' => e = .returned (.tuple #[.agg #[.int .i64 x.t, .int .i64 x.n, .string x.v, .int .i64 x.f, .int .i64 x.s, .bool x.a], .bool true]) ∧ Below w.heap.size w w' := by
  obtain ⟨b, c, rfl, hh⟩ := h.q.hq hl
  have hle := h.le
  refine (min_any g b c (L.length - 1) lim L w (by omega) (by omega) hp hh).mono ?_
  rintro e w' ⟨rfl, hb⟩
  rw [h.c.min hl, hx]
  exact ⟨rfl, hb⟩

set_option maxRecDepth 100000 in
set_option maxHeartbeats 2000000 in
theorem does_min1 (g : Nat) (lim t m f s : Int) (v : ByteArray) (a : Bool) (L R : List Ev) (sv : Value) (A : Option Addr) (n c : Nat) (w : World) (hp : 0 < lim) (hm : lim ≤ 4096) (hT : Two w g lim L sv R (.slice A n c)) (hL : R.length = n) (hn0 : 0 < n) :
    Calls Try.prog 16 #[.pointer (some ⟨g, 0, none⟩), .agg #[.int .i64 lim, .slice A n c], .agg #[.int .i64 3, .int .i64 t, .int .i64 m, .string v, .int .i64 f, .int .i64 s, .bool a]] w
      fun e w' => ∃ rv', e = .returned (.tuple #[.agg #[.int .i64 lim, rv'], .bool true]) ∧ DPost w g lim sv (.slice A n c) rv' w' := by
  have HT := Lib.hid hT
  have HL := Lib.hid hL
  have hb3 := boxes3 w #[.int .i64 lim, .slice A n c] #[.int .i64 3, .int .i64 t, .int .i64 m, .string v, .int .i64 f, .int .i64 s, .bool a] #[.int .i64 0, .slice none 0 0] 42 46 42
  have Hb3 := Lib.hid hb3
  have hll := hT.c.len
  have hle := hT.le
  have hll0 : Hid (0 < L.length) := by show _ < _; omega
  have hnn : n ≤ 4096 := by omega
  obtain ⟨x, hx⟩ : ∃ x, evAt R 0 = x := ⟨_, rfl⟩
  have Hx := Lib.hid hx
  have hq := eql30 x
  unfold Ev.cs at hq
  have hdn0 : decide (0 < n) = true := by simpa using hn0
  have hdn1 : decide ((0 : Int) < (n : Int)) = true := by simp; omega
  clear hb3 hT hL hx hll hle
  go_enter Try.func16, Try.ntmps16
  go_wp2_with fail
  have htk := min_two hp hm (HT.out.below Hb3.out.1) hll0.out Hx.out
  generalize (((w.alloc (.cells #[.int .i64 lim, .slice A n c] 42)).alloc (.cells #[.int .i64 3, .int .i64 t, .int .i64 m, .string v, .int .i64 f, .int .i64 s, .bool a] 46)).alloc (.cells #[.int .i64 0, .slice none 0 0] 42)) = W at *
  with_reducible refine htk.mono ?_
  clear htk
  rintro e w1 ⟨rfl, hb1⟩
  obtain ⟨hbb, hbs, hx0, hx1, hx2⟩ := Hb3.out
  have hbA : Below w1.heap.size w1 (w1.alloc (.cells #[.int .i64 x.t, .int .i64 x.n, .string x.v, .int .i64 x.f, .int .i64 x.s, .bool x.a] 30)) := (Below.refl _ _).alloc (Nat.le_refl _) _
  have hs1 := hb1.size
  have hb2 := (hbb.trans (hb1.mono hbb.size)).trans (hbA.mono (by have := hbb.size; omega))
  replace hx0 := (hbA.block _ (by omega)).trans ((hb1.block _ (by omega)).trans hx0)
  replace hx2 := (hbA.block _ (by omega)).trans ((hb1.block _ (by omega)).trans hx2)
  have hx8 := heap_alloc_new w1 (.cells #[.int .i64 x.t, .int .i64 x.n, .string x.v, .int .i64 x.f, .int .i64 x.s, .bool x.a] 30)
  have Hx0 := Lib.hid hx0
  have Hx2 := Lib.hid hx2
  have Hx8 := Lib.hid hx8
  have Hb2 := Lib.hid hb2
  have HT2 := Lib.hid (HT.out.below hb2)
  have y0 := blk_cell hx0 0
  have y1 := blk_cell hx0 1
  have f1 := blk_frozen hx0 1
  have Hw1 := Lib.hid (show w.heap.size + 3 ≤ w1.heap.size by omega)
  clear hx0 hx1 hx2 hx8 hbb hbs hbA hs1 Hb3 hb1 hb2
  go_wp2_with fail
  generalize (w1.alloc (.cells #[.int .i64 x.t, .int .i64 x.n, .string x.v, .int .i64 x.f, .int .i64 x.s, .bool x.a] 30)) = w2 at *
  obtain ⟨b, rfl, hbl, hxx⟩ := HT2.out.r.rd' (by rw [HL.out]; exact hn0)
  obtain ⟨r0, r1, r2, r3, r4, r5⟩ := hxx 0 _ (evAt_some (by rw [HL.out]; exact hn0))
  rw [Hx.out] at r0 r1 r2 r3 r4 r5
  rw [Nat.zero_mul] at r0 r1 r2 r3 r4 r5
  have z0 : w2.cell? ⟨w.heap.size + 1 + 1, 0, none⟩ = _ := blk_cell Hx2.out 0
  have z1 : w2.cell? ⟨w.heap.size + 1 + 1, 1, none⟩ = _ := blk_cell Hx2.out 1
  have g0 : w2.frozen? ⟨w.heap.size + 1 + 1, 0, none⟩ = _ := blk_frozen Hx2.out 0
  have g1 : w2.frozen? ⟨w.heap.size + 1 + 1, 1, none⟩ = _ := blk_frozen Hx2.out 1
  have x0 := blk_cell Hx8.out 0
  have x1 := blk_cell Hx8.out 1
  have x2 := blk_cell Hx8.out 2
  have x3 := blk_cell Hx8.out 3
  have x4 := blk_cell Hx8.out 4
  have x5 := blk_cell Hx8.out 5
  have hnb1 : ¬ b = w.heap.size + 1 + 1 := fun e => own_ne_blk HT2.out.r Hx2.out (by decide) (by rw [← e]; rfl)
  have hnb2 : ¬ w.heap.size + 1 + 1 = b := fun e => hnb1 e.symm
  have hnw1 : ¬ w1.heap.size = w.heap.size + 1 + 1 := by have := Hw1.out; omega
  have hnw2 : ¬ w.heap.size + 1 + 1 = w1.heap.size := by have := Hw1.out; omega
  clear hxx
  go_region
  all_goals
    have hdn := does_done (lim2 := lim) HT.out Hb2.out (Kp.refl _ w2) Hx2.out HT2.out.q (.inl rfl) HT2.out.r HT.out.c HT.out.le (fun k h => .inl h)
    have Hdn := Lib.hid hdn
    clear hdn
    go_wp2
    refine bodyPost_ret (res_ct rfl _ _ (w.heap.size + 2) 42 _ (0, 0) _ rfl Hdn.out.1 Try.underlying42 rfl (size42 _ _)) rfl ?_
    exact ⟨_, rfl, Hdn.out.2.drew⟩
end Go.Proofs.Ytebcbjmdkbmnkaa
