/- The walk of does: Take. -/
import Derived.Test.YtebcbjmdkbmnkaaEvDoes
namespace Go.Proofs.Ytebcbjmdkbmnkaa
set_option linter.unusedVariables false
set_option linter.unusedSimpArgs false
open Go.RowKit

theorem own_slice3 {w : World} {base n size : Nat} {e : TypeId} {v : Value} {xs : List Value} (h : w.ownsRow base e size v n xs) : ∃ A m c, v = .slice A m c := by
  obtain ⟨A, c, h⟩ := own_slice' h
  exact ⟨A, n, c, h⟩
theorem below_of_drew {w w' : World} (h : Below w.drew.heap.size w.drew w') : Below w.heap.size w w' := ⟨h.os, h.tape, h.output, h.size, h.block⟩
theorem DPost.drew {w : World} {g : Nat} {lim : Int} {sv rv rv' : Value} {w' : World} (h : DPost w g lim sv rv rv' w') : DPost w g lim sv rv rv' w'.drew := by
  obtain ⟨L', sv', R', ⟨q, r, c, ne, le⟩, k, o, v⟩ := h
  exact ⟨L', sv', R', ⟨q, r, c, ne, le⟩, k.drew, o, v⟩
theorem DPost.drewN {w : World} {g : Nat} {lim : Int} {sv rv rv' : Value} {w' : World} (h : DPost w g lim sv rv rv' w') (n : Nat) : DPost w g lim sv rv rv' (w'.drewN n) := by
  obtain ⟨L', sv', R', ⟨q, r, c, ne, le⟩, k, o, v⟩ := h
  exact ⟨L', sv', R', ⟨q, r, c, ne, le⟩, k.drewN n, o, v⟩

/-- the same where the queue's call came first and moved nothing anew -/
theorem does_done2 {w w3 : World} {g : Nat} {lim lim2 : Int} {L R L' R1 : List Ev} {sv rv sv3 rv1 x0 x1 : Value} (hT : Two w g lim L sv R rv) (hk : Kp (qb g sv) w w3)
    (hx : w3.heap[w.heap.size + 2]? = some (.cells #[x0, x1] 42 (0, 0))) (hq : QS w3 g lim L' sv3) (ho : sv3.ownBlock = sv.ownBlock)
    (hr : RR w3 rv1 R1) (hc : Cpl L' R1) (hl : L'.length ≤ lim) (hv : ∀ k, rv1.ownBlock = some k → rv.ownBlock = some k ∨ w.heap.size ≤ k) :
    ((w3.setCell ⟨w.heap.size + 2, 0, none⟩ (.int .i64 lim2)).setCell ⟨w.heap.size + 2, 1, none⟩ rv1).heap[w.heap.size + 2]? = some (.cells #[.int .i64 lim2, rv1] 42 (0, 0)) ∧
    DPost w g lim sv rv rv1 ((w3.setCell ⟨w.heap.size + 2, 0, none⟩ (.int .i64 lim2)).setCell ⟨w.heap.size + 2, 1, none⟩ rv1) := by
  have hks : Kp (fun k => k = w.heap.size + 2) w3 ((w3.setCell ⟨w.heap.size + 2, 0, none⟩ (.int .i64 lim2)).setCell ⟨w.heap.size + 2, 1, none⟩ rv1) := ((Kp.refl (fun k => k = w.heap.size + 2) w3).setCell (p := ⟨w.heap.size + 2, 0, none⟩) (.inl rfl) _).setCell (p := ⟨w.heap.size + 2, 1, none⟩) (.inl rfl) _
  have hgl := hT.q.lt
  refine ⟨res_done hx, L', sv3, R1, ⟨hq.kp hks (by show ¬ g = w.heap.size + 2; omega) ?_, hr.kp hks ?_, hc, ?_, hl⟩, ?_, .inl ho, hv⟩
  · rintro k hk1 rfl
    exact own_ne_blk hq.2 hx (by decide) hk1.symm
  · rintro k hk1 rfl
    exact own_ne_blk hr hx (by decide) hk1.symm
  · intro k h1 h2
    have h := ho.symm.trans h1
    rcases hv k h2 with h5 | h5
    · exact hT.ne k h h5
    · have := hT.q.own_lt h; omega
  · exact (hk.setCell (p := ⟨w.heap.size + 2, 0, none⟩) (.inr (Nat.le_add_right _ _)) _).setCell (p := ⟨w.heap.size + 2, 1, none⟩) (.inr (Nat.le_add_right _ _)) _

set_option maxRecDepth 100000 in
set_option maxHeartbeats 2000000 in
theorem does_take0 (g : Nat) (lim t m f s : Int) (v : ByteArray) (a : Bool) (sv : Value) (A : Option Addr) (c : Nat) (w : World) (hp : 0 < lim) (hm : lim ≤ 4096) (hT : Two w g lim [] sv [] (.slice A 0 c)) :
    Calls Try.prog 16 #[.pointer (some ⟨g, 0, none⟩), .agg #[.int .i64 lim, .slice A 0 c], .agg #[.int .i64 2, .int .i64 t, .int .i64 m, .string v, .int .i64 f, .int .i64 s, .bool a]] w
      fun e w' => ∃ rv', e = .returned (.tuple #[.agg #[.int .i64 lim, rv'], .bool true]) ∧ DPost w g lim sv (.slice A 0 c) rv' w' := by
  have HT := Lib.hid hT
  have hb3 := boxes3 w #[.int .i64 lim, .slice A 0 c] #[.int .i64 2, .int .i64 t, .int .i64 m, .string v, .int .i64 f, .int .i64 s, .bool a] #[.int .i64 0, .slice none 0 0] 42 46 42
  have Hb3 := Lib.hid hb3
  clear hb3 hT
  have hq := eql30 ev0
  unfold Ev.cs at hq
  dsimp only [ev0] at hq
  go_enter Try.func16, Try.ntmps16
  go_wp2_with fail
  have htk := take_empty g lim sv _ hp (HT.out.below Hb3.out.1).q
  unfold Ev.cs at htk
  dsimp only [ev0] at htk
  generalize (((w.alloc (.cells #[.int .i64 lim, .slice A 0 c] 42)).alloc (.cells #[.int .i64 2, .int .i64 t, .int .i64 m, .string v, .int .i64 f, .int .i64 s, .bool a] 46)).alloc (.cells #[.int .i64 0, .slice none 0 0] 42)) = W at *
  with_reducible refine htk.mono ?_
  clear htk
  rintro e w1 ⟨rfl, hb1⟩
  obtain ⟨hbb, hbs, hx0, hx1, hx2⟩ := Hb3.out
  have hbA : Below w1.heap.size w1 (w1.alloc (.cells #[.int .i64 0, .int .i64 0, .string ⟨#[]⟩, .int .i64 0, .int .i64 0, .bool false] 30)) := (Below.refl _ _).alloc (Nat.le_refl _) _
  have hs1 := hb1.size
  have hb2 := (hbb.trans (hb1.mono hbb.size)).trans (hbA.mono (by have := hbb.size; omega))
  replace hx0 := (hbA.block _ (by omega)).trans ((hb1.block _ (by omega)).trans hx0)
  replace hx2 := (hbA.block _ (by omega)).trans ((hb1.block _ (by omega)).trans hx2)
  have hx8 := heap_alloc_new w1 (.cells #[.int .i64 0, .int .i64 0, .string ⟨#[]⟩, .int .i64 0, .int .i64 0, .bool false] 30)
  have Hx0 := Lib.hid hx0
  have Hx2 := Lib.hid hx2
  have Hx8 := Lib.hid hx8
  have Hb2 := Lib.hid hb2
  have HT2 := Lib.hid (HT.out.below hb2)
  have hne1 : ¬ w.heap.size + 1 + 1 = w1.heap.size := by omega
  have hne2 : ¬ w1.heap.size = w.heap.size + 1 + 1 := by omega
  clear hx0 hx1 hx2 hx8 hb1 hb2 hbb hbs hbA hs1 Hb3
  have y0 := blk_cell Hx0.out 0
  have y1 := blk_cell Hx0.out 1
  go_wp2_with fail
  generalize (w1.alloc (.cells #[.int .i64 0, .int .i64 0, .string ⟨#[]⟩, .int .i64 0, .int .i64 0, .bool false] 30)) = w2 at *
  have z0 : w2.cell? ⟨w.heap.size + 1 + 1, 0, none⟩ = _ := blk_cell Hx2.out 0
  have z1 : w2.cell? ⟨w.heap.size + 1 + 1, 1, none⟩ = _ := blk_cell Hx2.out 1
  have g0 : w2.frozen? ⟨w.heap.size + 1 + 1, 0, none⟩ = _ := blk_frozen Hx2.out 0
  have g1 : w2.frozen? ⟨w.heap.size + 1 + 1, 1, none⟩ = _ := blk_frozen Hx2.out 1
  have x0 := blk_cell Hx8.out 0
  have x1 := blk_cell Hx8.out 1
  have x2 := blk_cell Hx8.out 2
  have x3 := blk_cell Hx8.out 3
  have x4 := blk_cell Hx8.out 4
  have x5 := blk_cell Hx8.out 5
  go_region
  all_goals
    have hdn := does_done (lim2 := lim) HT.out Hb2.out (Kp.refl _ w2) Hx2.out HT2.out.q (.inl rfl) HT2.out.r Cpl.nil HT.out.le (fun k h => .inl h)
    have Hdn := Lib.hid hdn
    clear hdn
    go_wp2
    refine bodyPost_ret (res_ct rfl _ _ (w.heap.size + 2) 42 _ (0, 0) _ rfl Hdn.out.1 Try.underlying42 rfl (size42 _ _)) rfl ?_
    exact ⟨_, rfl, Hdn.out.2.drew⟩

set_option maxRecDepth 100000 in
set_option maxHeartbeats 2000000 in
theorem does_take1 (g : Nat) (lim t m f s : Int) (v : ByteArray) (a : Bool) (L R : List Ev) (sv : Value) (A : Option Addr) (n c : Nat) (w : World) (hp : 0 < lim) (hm : lim ≤ 4096) (hT : Two w g lim L sv R (.slice A n c)) (hL : R.length = n) (hn0 : 0 < n) :
    Calls Try.prog 16 #[.pointer (some ⟨g, 0, none⟩), .agg #[.int .i64 lim, .slice A n c], .agg #[.int .i64 2, .int .i64 t, .int .i64 m, .string v, .int .i64 f, .int .i64 s, .bool a]] w
      fun e w' => ∃ rv', e = .returned (.tuple #[.agg #[.int .i64 lim, rv'], .bool true]) ∧ DPost w g lim sv (.slice A n c) rv' w' := by
  have HT := Lib.hid hT
  have HL := Lib.hid hL
  have hb3 := boxes3 w #[.int .i64 lim, .slice A n c] #[.int .i64 2, .int .i64 t, .int .i64 m, .string v, .int .i64 f, .int .i64 s, .bool a] #[.int .i64 0, .slice none 0 0] 42 46 42
  have Hb3 := Lib.hid hb3
  have hll := hT.c.len
  have hle := hT.le
  have hml : Hid (L.length = (n - 1) + 1) := by show _ = _; omega
  have htk0 := hT.c.take hml.out
  have Hc := Lib.hid htk0.2.1
  have hl2 : Hid ((popL L).dropLast.length ≤ lim) := by show _ ≤ _; rw [htk0.2.2]; omega
  have hnn : n ≤ 4096 := by omega
  have HN := Lib.hid hT.new
  have HF := Lib.hid (hT.r.far hT.q hT.ne)
  obtain ⟨x, hx⟩ : ∃ x, evAt R 0 = x := ⟨_, rfl⟩
  have Hx := Lib.hid hx
  have hq := eql30 x
  unfold Ev.cs at hq
  clear hb3 hT hL hx htk0 hll
  go_enter Try.func16, Try.ntmps16
  go_wp2_with fail
  have htk := take_kp hp hm hml.out hle (HT.out.below Hb3.out.1).q rfl HT.out.c x Hx.out
  generalize (((w.alloc (.cells #[.int .i64 lim, .slice A n c] 42)).alloc (.cells #[.int .i64 2, .int .i64 t, .int .i64 m, .string v, .int .i64 f, .int .i64 s, .bool a] 46)).alloc (.cells #[.int .i64 0, .slice none 0 0] 42)) = W at *
  with_reducible refine htk.mono ?_
  clear htk hle
  rintro e w1 ⟨rfl, ⟨sv1, hq1, hs1⟩, hk1⟩
  obtain ⟨hbb, hbs, hx0, hx1, hx2⟩ := Hb3.out
  have hsz := hk1.size
  have hbA : Below w1.heap.size w1 (w1.alloc (.cells #[.int .i64 x.t, .int .i64 x.n, .string x.v, .int .i64 x.f, .int .i64 x.s, .bool x.a] 30)) := (Below.refl _ _).alloc (Nat.le_refl _) _
  replace hx0 := (hbA.block _ (by omega)).trans (hk1.blk hx0 (HN.out _ (Nat.le_refl _)))
  replace hx2 := (hbA.block _ (by omega)).trans (hk1.blk hx2 (HN.out _ (by omega)))
  have hx8 := heap_alloc_new w1 (.cells #[.int .i64 x.t, .int .i64 x.n, .string x.v, .int .i64 x.f, .int .i64 x.s, .bool x.a] 30)
  have hr2 := ((HT.out.below hbb).r.kp hk1 HF.out).below hbA
  have hk2 := ((Kp.of_below hbb (qb g sv)).trans hk1).trans (Kp.of_below hbA (qb g sv))
  have hq2 := hq1.below hbA
  have Hx0 := Lib.hid hx0
  have Hx2 := Lib.hid hx2
  have Hx8 := Lib.hid hx8
  have Hr2 := Lib.hid hr2
  have Hk2 := Lib.hid hk2
  have Hq2 := Lib.hid hq2
  have Hs1 := Lib.hid hs1
  have y0 := blk_cell hx0 0
  have y1 := blk_cell hx0 1
  have f1 := blk_frozen hx0 1
  have Hw1 := Lib.hid (show w.heap.size + 3 ≤ w1.heap.size by omega)
  clear hx0 hx1 hx2 hx8 hbb hbs hbA hsz Hb3 hr2 hk2 hq2 hq1 hs1 hk1
  go_wp2_with fail
  generalize hW2 : (w1.alloc (.cells #[.int .i64 x.t, .int .i64 x.n, .string x.v, .int .i64 x.f, .int .i64 x.s, .bool x.a] 30)) = w2 at *
  have hsz2 : Hid (w1.heap.size + 1 = w2.heap.size) := by show _ = _; rw [← hW2]; simp
  clear hW2
  obtain ⟨b, rfl, hbl, hxx⟩ := Hr2.out.rd' (by rw [HL.out]; exact hn0)
  obtain ⟨r0, r1, r2, r3, r4, r5⟩ := hxx 0 _ (evAt_some (by rw [HL.out]; exact hn0))
  rw [Hx.out] at r0 r1 r2 r3 r4 r5
  rw [Nat.zero_mul] at r0 r1 r2 r3 r4 r5
  have z0 : w2.cell? ⟨w.heap.size + 1 + 1, 0, none⟩ = _ := blk_cell Hx2.out 0
  have z1 : w2.cell? ⟨w.heap.size + 1 + 1, 1, none⟩ = _ := blk_cell Hx2.out 1
  have g0 : w2.frozen? ⟨w.heap.size + 1 + 1, 0, none⟩ = _ := blk_frozen Hx2.out 0
  have g1 : w2.frozen? ⟨w.heap.size + 1 + 1, 1, none⟩ = _ := blk_frozen Hx2.out 1
  have x0 := blk_cell Hx8.out 0
  have x1 := blk_cell Hx8.out 1
  have x2 := blk_cell Hx8.out 2
  have x3 := blk_cell Hx8.out 3
  have x4 := blk_cell Hx8.out 4
  have x5 := blk_cell Hx8.out 5
  have hwo := without_any lim 0 (some ⟨b, 0, none⟩) n c R w2.drew HL.out hnn hn0 (by have := Hr2.out.rd'; exact this)
  rw [show ((0 : Nat) : Int) = 0 from rfl] at hwo
  have Hwo := Lib.hid hwo
  have hlt2 : Hid (w.heap.size + 3 ≤ w1.heap.size ∧ w1.heap.size < w2.heap.size ∧ b < w2.heap.size) := ⟨Hw1.out, by have := hsz2.out; omega, hbl⟩
  have hnb1 : ¬ b = w.heap.size + 1 + 1 := fun e => own_ne_blk Hr2.out Hx2.out (by decide) (by rw [← e]; rfl)
  have hnb2 : ¬ w.heap.size + 1 + 1 = b := fun e => hnb1 e.symm
  have hnw1 : ¬ w1.heap.size = w.heap.size + 1 + 1 := by have := Hw1.out; omega
  have hnw2 : ¬ w.heap.size + 1 + 1 = w1.heap.size := by have := Hw1.out; omega
  clear hwo hxx
  go_region_with (go_at_call 29; (have hwo := Hwo.out; with_reducible refine hwo.mono ?_; clear hwo; rintro e w3 ⟨v1, rfl, hv, hb⟩; obtain ⟨Av, nv, cv, rfl⟩ := own_slice3 hv; have hb' : Below w2.heap.size w2 w3 := below_of_drew hb; have hc : (∀ p : Addr, p.block < w2.heap.size → w3.cell? p = w2.cell? p) := (fun p hp => hb'.cell hp); have hfz : (∀ p : Addr, p.block < w2.heap.size → w3.frozen? p = w2.frozen? p) := (fun p hp => hb'.frozen hp); have hlt3 := hlt2.out; have y0' := ((hc _ (show w.heap.size < _ by omega)).trans y0); have y1' := ((hc _ (show w.heap.size < _ by omega)).trans y1); have z0' := ((hc _ (show w.heap.size + 1 + 1 < _ by omega)).trans z0); have z1' := ((hc _ (show w.heap.size + 1 + 1 < _ by omega)).trans z1); have g0' := ((hfz _ (show w.heap.size + 1 + 1 < _ by omega)).trans g0); have g1' := ((hfz _ (show w.heap.size + 1 + 1 < _ by omega)).trans g1); have x0' := ((hc _ (show w1.heap.size < _ by omega)).trans x0); have x1' := ((hc _ (show w1.heap.size < _ by omega)).trans x1); have x2' := ((hc _ (show w1.heap.size < _ by omega)).trans x2); have x3' := ((hc _ (show w1.heap.size < _ by omega)).trans x3); have x4' := ((hc _ (show w1.heap.size < _ by omega)).trans x4); have x5' := ((hc _ (show w1.heap.size < _ by omega)).trans x5); have r0' := ((hc _ (show b < _ by omega)).trans r0); have r1' := ((hc _ (show b < _ by omega)).trans r1); have r2' := ((hc _ (show b < _ by omega)).trans r2); have r3' := ((hc _ (show b < _ by omega)).trans r3); have r4' := ((hc _ (show b < _ by omega)).trans r4); have r5' := ((hc _ (show b < _ by omega)).trans r5); have HV := (Lib.hid hv); have HB := (Lib.hid hb'); clear hv hb hb' hc hfz hlt3))
  all_goals
    have hb9 := HB.out
    have hv9 : OR w.heap.size w3 (.slice Av nv cv) (R.eraseIdx 0) := own_lower HV.out (by have h1 := Hw1.out; have h2 := hsz2.out; show w.heap.size ≤ w2.heap.size; omega)
    have hdn := does_done2 (lim2 := lim) HT.out (Hk2.out.trans (Kp.of_below hb9 _)) ((hb9.block _ (by have h1 := Hw1.out; have h2 := hsz2.out; omega)).trans Hx2.out) (Hq2.out.below hb9) Hs1.out (own_lower hv9 (Nat.zero_le _)) Hc.out hl2.out (fun k h => .inr (own_base hv9 k h))
    have Hdn := Lib.hid hdn
    clear hdn hb9 hv9
    go_wp2
    refine bodyPost_ret (res_ct rfl _ _ (w.heap.size + 2) 42 _ (0, 0) _ rfl Hdn.out.1 Try.underlying42 rfl (size42 _ _)) rfl ?_
    first
      | exact ⟨_, rfl, Hdn.out.2⟩
      | exact ⟨_, rfl, Hdn.out.2.drew⟩
      | exact ⟨_, rfl, Hdn.out.2.drewN _⟩
end Go.Proofs.Ytebcbjmdkbmnkaa
