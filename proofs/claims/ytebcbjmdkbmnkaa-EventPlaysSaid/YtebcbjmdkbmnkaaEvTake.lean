/- The contracts of a queue's Take and Min. -/
import Derived.Test.YtebcbjmdkbmnkaaEvPut
namespace Go.Proofs.Ytebcbjmdkbmnkaa
set_option linter.unusedVariables false
set_option linter.unusedSimpArgs false
open Go.RowKit

theorem res_ct {P : Program} {fn : Func} {p u : Tmp} {ty : TypeId} (h : fn.results = #[.cell p ty, .tmp u]) (tmps : Array Value) (w : World) (g : Nat) (t : TypeId) (cs : Array Value) (fr : Nat × Nat) (d : TypeDesc)
    (hp : tmps.getD p undef = .pointer (some ⟨g, 0, none⟩)) (hg : w.heap[g]? = some (.cells cs t fr))
    (hu : P.underlying ty = some d) (hd : (match d with | .struct _ | .array _ _ => true | _ => false) = true) (hi : (P.info? ty).map (·.size) = some cs.size) :
    (results fn tmps).run P w = .ok (.tuple #[.agg cs, tmps.getD u undef]) w := by
  have hp' : tmps[p]?.getD undef = .pointer (some ⟨g, 0, none⟩) := by simpa using hp
  simp [results, h, hp', asAddr, run_loadVar_row w g t ty cs fr d hg hu hd hi]

def ev0 : Ev := ⟨0, 0, ⟨#[]⟩, 0, 0, false⟩
theorem size6 (x : Ev) : (Try.prog.info? 30).map (·.size) = some x.cs.size := by
  have h : (Try.prog.info? 30).map (·.size) = some 6 := by kernel_rfl
  rw [h]; rfl


set_option maxHeartbeats 1000000 in
theorem take_bad (q : Value) (w : World) (hg : ∀ w', Below w.heap.size w w' → Calls Try.prog 19 #[q] w' fun e w'' => e = .returned (.bool false) ∧ w' = w'') :
    Calls Try.prog 11 #[q] w fun e w' => e = .returned (.tuple #[.agg ev0.cs, .bool false]) ∧ Below w.heap.size w w' := by
  have HG := Lib.hid hg
  clear hg
  go_enter Try.func11, Try.ntmps11
  go_wp2_with fail
  have h1 := HG.out _ ((Below.refl _ w).alloc (Nat.le_refl _) (.cells #[.int .i64 0, .int .i64 0, .string ⟨#[]⟩, .int .i64 0, .int .i64 0, .bool false] 30))
  with_reducible refine h1.mono ?_
  clear h1
  rintro e w1 ⟨rfl, rfl⟩
  go_wp2
  refine bodyPost_ret (res_ct rfl _ _ w.heap.size 30 ev0.cs (0, 0) _ rfl (heap_alloc_new w _) Try.underlying30 rfl (size6 ev0)) rfl ⟨rfl, by go_grown⟩

set_option maxHeartbeats 1000000 in
theorem take_empty (g : Nat) (lim : Int) (sv : Value) (w : World) (hp : 0 < lim) (hQ : QS w g lim [] sv) :
    Calls Try.prog 11 #[.pointer (some ⟨g, 0, none⟩)] w fun e w' => e = .returned (.tuple #[.agg ev0.cs, .bool false]) ∧ Below w.heap.size w w' := by
  obtain ⟨A, c, rfl⟩ := hQ.slice
  have hdp : decide (0 < lim) = true := by simpa using hp
  have hq1 := hQ.below ((Below.refl _ w).alloc (Nat.le_refl _) (.cells #[.int .i64 0, .int .i64 0, .string ⟨#[]⟩, .int .i64 0, .int .i64 0, .bool false] 30))
  have hc0 := blk_cell hq1.1 0
  have hc1 := blk_cell hq1.1 1
  clear hq1 hQ
  simp only [List.length_nil] at hc0 hc1
  go_enter Try.func11, Try.ntmps11
  go_wp2_with fail
  have hgv := given_ptr g lim _ hc1 hdp
  with_reducible refine hgv.mono ?_
  clear hgv
  rintro e w1 ⟨rfl, rfl⟩
  go_wp2
  refine bodyPost_ret (res_ct rfl _ _ w.heap.size 30 ev0.cs (0, 0) _ rfl (heap_alloc_new w _) Try.underlying30 rfl (size6 ev0)) rfl ⟨rfl, by go_grown⟩

set_option maxHeartbeats 1000000 in
theorem min_bad (q : Value) (w : World) (hg : ∀ w', Below w.heap.size w w' → Calls Try.prog 19 #[q] w' fun e w'' => e = .returned (.bool false) ∧ w' = w'') :
    Calls Try.prog 18 #[q] w fun e w' => e = .returned (.tuple #[.agg ev0.cs, .bool false]) ∧ Below w.heap.size w w' := by
  have HG := Lib.hid hg
  clear hg
  go_enter Try.func18, Try.ntmps18
  go_wp2_with fail
  have h1 := HG.out _ ((Below.refl _ w).alloc (Nat.le_refl _) (.cells #[.int .i64 0, .int .i64 0, .string ⟨#[]⟩, .int .i64 0, .int .i64 0, .bool false] 30))
  with_reducible refine h1.mono ?_
  clear h1
  rintro e w1 ⟨rfl, rfl⟩
  go_wp2
  refine bodyPost_ret (res_ct rfl _ _ w.heap.size 30 ev0.cs (0, 0) _ rfl (heap_alloc_new w _) Try.underlying30 rfl (size6 ev0)) rfl ⟨rfl, by go_grown⟩

set_option maxHeartbeats 1000000 in
theorem min_empty (g : Nat) (lim : Int) (sv : Value) (w : World) (hp : 0 < lim) (hQ : QS w g lim [] sv) :
    Calls Try.prog 18 #[.pointer (some ⟨g, 0, none⟩)] w fun e w' => e = .returned (.tuple #[.agg ev0.cs, .bool false]) ∧ Below w.heap.size w w' := by
  obtain ⟨A, c, rfl⟩ := hQ.slice
  have hdp : decide (0 < lim) = true := by simpa using hp
  have hq1 := hQ.below ((Below.refl _ w).alloc (Nat.le_refl _) (.cells #[.int .i64 0, .int .i64 0, .string ⟨#[]⟩, .int .i64 0, .int .i64 0, .bool false] 30))
  have hc0 := blk_cell hq1.1 0
  have hc1 := blk_cell hq1.1 1
  clear hq1 hQ
  simp only [List.length_nil] at hc0 hc1
  go_enter Try.func18, Try.ntmps18
  go_wp2_with fail
  have hgv := given_ptr g lim _ hc1 hdp
  with_reducible refine hgv.mono ?_
  clear hgv
  rintro e w1 ⟨rfl, rfl⟩
  go_wp2
  refine bodyPost_ret (res_ct rfl _ _ w.heap.size 30 ev0.cs (0, 0) _ rfl (heap_alloc_new w _) Try.underlying30 rfl (size6 ev0)) rfl ⟨rfl, by go_grown⟩

theorem HQ.kp {w w' : World} {g b c : Nat} {lim : Int} {L : List Ev} {S : Nat → Prop} (h : HQ w g b c lim L) (hk : Kp S w w') (hg : ¬ S g) (hb : ¬ S b) : HQ w' g b c lim L :=
  ⟨hk.blk h.1 hg, h.2.blk_eq (hk.block b h.2.lt hb)⟩

def putEvs (cs : Array Value) (x : Ev) : Array Value := (((((cs.setIfInBounds 0 (.int .i64 x.t)).setIfInBounds 1 (.int .i64 x.n)).setIfInBounds 2 (.string x.v)).setIfInBounds 3 (.int .i64 x.f)).setIfInBounds 4 (.int .i64 x.s)).setIfInBounds 5 (.bool x.a)

set_option maxHeartbeats 1000000 in
theorem min_any (g b c n : Nat) (lim : Int) (L : List Ev) (w : World) (hL : L.length = n + 1) (hn : n < 4096) (hp : 0 < lim) (hQ : HQ w g b c lim L) :
    Calls Try.prog 18 #[.pointer (some ⟨g, 0, none⟩)] w fun e w' => e = .returned (.tuple #[.agg (evAt L 0).cs, .bool true]) ∧ Below w.heap.size w w' := by
  have hdp : decide (0 < lim) = true := by simpa using hp
  have hq1 := hQ.below ((Below.refl _ w).alloc (Nat.le_refl _) (.cells #[.int .i64 0, .int .i64 0, .string ⟨#[]⟩, .int .i64 0, .int .i64 0, .bool false] 30))
  have hc0 := blk_cell hq1.1 0
  have hc1 := blk_cell hq1.1 1
  obtain ⟨x0, x1, x2, x3, x4, x5⟩ := hq1.2.at_ (evAt_some (i := 0) (by rw [hL]; omega))
  rw [hL] at hc0 hc1
  have hblt := hQ.2.lt
  have hglt : g < w.heap.size := (Array.getElem?_eq_some_iff.1 hQ.1).1
  clear hq1 hQ
  generalize evAt L 0 = x at *
  obtain ⟨xt, xn, xv, xf, xs, xa⟩ := x
  dsimp only at *
  go_enter Try.func18, Try.ntmps18
  go_wp2_with fail
  have hgv := given_ptr g lim _ hc1 hdp
  with_reducible refine hgv.mono ?_
  clear hgv
  rintro e w1 ⟨rfl, rfl⟩
  go_wp2
  refine bodyPost_ret (res_ct rfl _ _ w.heap.size 30 (Ev.cs ⟨xt, xn, xv, xf, xs, xa⟩) (0, 0) _ rfl (heap_alloc_new w _) Try.underlying30 rfl (size6 _)) rfl ⟨rfl, by go_grown⟩

set_option maxHeartbeats 1000000 in
theorem take_any (g b c n : Nat) (lim : Int) (L : List Ev) (w : World) (hL : L.length = n + 1) (hn : n < 4096) (hp : 0 < lim) (hQ : HQ w g b c lim L) :
    Calls Try.prog 11 #[.pointer (some ⟨g, 0, none⟩)] w fun e w' => e = .returned (.tuple #[.agg (evAt (popL L) n).cs, .bool true]) ∧ HQ w' g b c lim (popL L).dropLast ∧ Kp (fun k => k = g ∨ k = b) w w' := by
  have hdp : decide (0 < lim) = true := by simpa using hp
  have hb0 : Below w.heap.size w (w.alloc (.cells #[.int .i64 0, .int .i64 0, .string ⟨#[]⟩, .int .i64 0, .int .i64 0, .bool false] 30)) := (Below.refl _ w).alloc (Nat.le_refl _) _
  have hq1 := hQ.below hb0
  have hbx := heap_alloc_new w (.cells #[.int .i64 0, .int .i64 0, .string ⟨#[]⟩, .int .i64 0, .int .i64 0, .bool false] 30)
  have hc0 := blk_cell hq1.1 0
  have hc1 := blk_cell hq1.1 1
  rw [hL] at hc0 hc1
  have hblt := hQ.2.lt
  have hglt : g < w.heap.size := (Array.getElem?_eq_some_iff.1 hQ.1).1
  have hbz : ((n : Int) + 1 == 0) = false := by rw [beq_eq_false_iff_ne]; omega
  have HQ1 := Lib.hid hq1
  have HL := Lib.hid hL
  clear hq1 hQ hL
  go_enter Try.func11, Try.ntmps11
  go_wp2_with fail
  have hgv := given_ptr g lim _ hc1 hdp
  with_reducible refine hgv.mono ?_
  clear hgv
  rintro e w1 ⟨rfl, rfl⟩
  generalize (w.alloc (.cells #[.int .i64 0, .int .i64 0, .string ⟨#[]⟩, .int .i64 0, .int .i64 0, .bool false] 30)) = w1 at *
  go_wp2_with fail
  have hpo := heap_pop g b c n lim L w1 HL.out hn HQ1.out
  with_reducible refine hpo.mono ?_
  clear hpo
  rintro e w2 ⟨rfl, hq2, hk2⟩
  have hbx2 := hk2.blk hbx (by rintro (h | h) <;> omega)
  have hk3 := (Kp.of_below hb0 (fun k => k = g ∨ k = b)).trans hk2
  have hta := fun (v : Value) (w : World) => run_typeAssert_same (P := Try.prog) (xt := 20) (t := 30) Try.underlying30 (by simp) v w
  have x0 := blk_cell hbx2 0
  have x1 := blk_cell hbx2 1
  have x2 := blk_cell hbx2 2
  have x3 := blk_cell hbx2 3
  have x4 := blk_cell hbx2 4
  have x5 := blk_cell hbx2 5
  have f0 := blk_frozen hbx2 0
  have f1 := blk_frozen hbx2 1
  have f2 := blk_frozen hbx2 2
  have f3 := blk_frozen hbx2 3
  have f4 := blk_frozen hbx2 4
  have f5 := blk_frozen hbx2 5
  have Hq2 := Lib.hid hq2
  have Hbx2 := Lib.hid hbx2
  clear hbx hbx2 hq2 hc0 hc1
  obtain ⟨x, hx⟩ : ∃ x, evAt (popL L) n = x := ⟨_, rfl⟩
  rw [hx]
  have Hx := Lib.hid hx
  clear hx
  obtain ⟨xt, xn, xv, xf, xs, xa⟩ := x
  unfold Ev.cs
  dsimp only
  go_wp2
  have hbz := blk_set (blk_set (blk_set (blk_set (blk_set (blk_set Hbx2.out 0 (.int .i64 xt)) 1 (.int .i64 xn)) 2 (.string xv)) 3 (.int .i64 xf)) 4 (.int .i64 xs)) 5 (.bool xa)
  refine bodyPost_ret (res_ct rfl _ _ w.heap.size 30 (Ev.cs ⟨xt, xn, xv, xf, xs, xa⟩) (0, 0) _ rfl hbz Try.underlying30 rfl (size6 _)) rfl ⟨by rw [Hx.out]; rfl, ?_, ?_⟩
  · exact Hq2.out.kp (((((((Kp.refl (· = w.heap.size) w2).setCell (.inl rfl) _).setCell (.inl rfl) _).setCell (.inl rfl) _).setCell (.inl rfl) _).setCell (.inl rfl) _).setCell (.inl rfl) _) (by omega) (by omega)
  · exact hk3.trans' (((((((Kp.refl (· = w.heap.size) w2).setCell (.inl rfl) _).setCell (.inl rfl) _).setCell (.inl rfl) _).setCell (.inl rfl) _).setCell (.inl rfl) _).setCell (.inl rfl) _) (fun i hi => .inr (by subst hi; exact Nat.le_refl _))
end Go.Proofs.Ytebcbjmdkbmnkaa
