/- The walk of does: a call on both sides. -/
import Derived.Test.YtebcbjmdkbmnkaaEvDrained
namespace Go.Proofs.Ytebcbjmdkbmnkaa
set_option linter.unusedVariables false
set_option linter.unusedSimpArgs false
open Go.RowKit

/-- a queue and the document's queue, which tell the same -/
structure Two (w : World) (g : Nat) (lim : Int) (L : List Ev) (sv : Value) (R : List Ev) (rv : Value) : Prop where
  q : QS w g lim L sv
  r : RR w rv R
  c : Cpl L R
  ne : NeOwn sv rv
  le : L.length ≤ lim

theorem RR.rd' {w : World} {A : Option Addr} {n c : Nat} {L : List Ev} (h : RR w (.slice A n c) L) : Rd w A L := by
  obtain ⟨A', c', hA, hrd⟩ := h.rd
  injection hA with hA1 hA2 hA3
  subst hA1
  exact hrd
/-- what a call on both sides leaves -/
def DPost (w : World) (g : Nat) (lim : Int) (sv rv : Value) (rv' : Value) (w' : World) : Prop :=
  ∃ L' sv' R', Two w' g lim L' sv' R' rv' ∧ Kp (qb g sv) w w' ∧ (sv'.ownBlock = sv.ownBlock ∨ ∃ k, sv'.ownBlock = some k ∧ w.heap.size ≤ k) ∧ (∀ k, rv'.ownBlock = some k → rv.ownBlock = some k ∨ w.heap.size ≤ k)

theorem Two.kp {w w' : World} {g : Nat} {lim : Int} {L R : List Ev} {sv rv : Value} {S : Nat → Prop} (h : Two w g lim L sv R rv) (hk : Kp S w w') (h1 : ¬ S g) (h2 : ∀ k, sv.ownBlock = some k → ¬ S k) (h3 : ∀ k, rv.ownBlock = some k → ¬ S k) : Two w' g lim L sv R rv :=
  ⟨h.q.kp hk h1 h2, h.r.kp hk h3, h.c, h.ne, h.le⟩
theorem Two.below {w w' : World} {g : Nat} {lim : Int} {L R : List Ev} {sv rv : Value} (h : Two w g lim L sv R rv) (hb : Below w.heap.size w w') : Two w' g lim L sv R rv :=
  h.kp (Kp.of_below hb (fun _ => False)) (fun h => h) (fun _ _ h => h) (fun _ _ h => h)

theorem Kp.of_drew {S : Nat → Prop} {w w' : World} (h : Kp S w.drew w') : Kp S w w' := ⟨h.os, h.tape, h.output, h.size, h.block⟩
theorem Two.new {w : World} {g : Nat} {lim : Int} {L R : List Ev} {sv rv : Value} (h : Two w g lim L sv R rv) : ∀ k, w.heap.size ≤ k → ¬ qb g sv k := by
  rintro k hk (e | e)
  · have := h.q.lt; omega
  · have := h.q.own_lt e; omega
theorem put_facts {w w1 : World} {g : Nat} {lim : Int} {L R : List Ev} {sv rv : Value} {e : Ending} (hT : Two w g lim L sv R rv) (x : Ev) (h : RPut w lim R x rv e w1) :
    ∃ A1 n1 c1 R1, e = .returned (.tuple #[.agg #[.int .i64 lim, .slice A1 n1 c1], .int .i64 (putE lim L x).1]) ∧ Below w.heap.size w w1 ∧ RR w1 (.slice A1 n1 c1) R1 ∧ Cpl (putE lim L x).2 R1 ∧ (putE lim L x).2.length ≤ lim ∧
      (∀ k, (Value.slice A1 n1 c1).ownBlock = some k → rv.ownBlock = some k ∨ w.heap.size ≤ k) := by
  obtain ⟨v', rfl, hb, h2⟩ := h
  obtain ⟨p1, p2⟩ := hT.c.put lim x
  rw [p1]
  rcases h2 with ⟨k0, rfl⟩ | ⟨k0, ho⟩
  · rcases p2 with ⟨q0, _⟩ | ⟨_, q1⟩
    · exact absurd q0 k0
    · obtain ⟨A1, c1, rfl, _⟩ := hT.r.rd
      rw [q1]
      exact ⟨A1, _, c1, R, rfl, hb, hT.r.below hb, hT.c, hT.le, fun k h => .inl h⟩
  · rcases p2 with ⟨_, q1, q2, q3⟩ | ⟨q0, _⟩
    · obtain ⟨A1, c1, rfl⟩ := own_slice' ho
      rw [q1]
      exact ⟨A1, _, c1, _, rfl, hb, own_lower ho (Nat.zero_le _), q3, by rw [pushL_len]; omega, fun k h => .inr (own_base ho k h)⟩
    · exact absurd k0 q0


/-- the call's own result stands written: the two go on telling the same -/
theorem does_done {w w2 w3 : World} {g : Nat} {lim lim2 : Int} {L R L' R1 : List Ev} {sv rv sv3 rv1 x0 x1 : Value} (hT : Two w g lim L sv R rv) (hb : Below w.heap.size w w2) (hk : Kp (qb g sv) w2 w3)
    (hx : w3.heap[w.heap.size + 2]? = some (.cells #[x0, x1] 42 (0, 0))) (hq : QS w3 g lim L' sv3) (ho : sv3.ownBlock = sv.ownBlock ∨ ∃ k, sv3.ownBlock = some k ∧ w2.heap.size ≤ k)
    (hr : RR w2 rv1 R1) (hc : Cpl L' R1) (hl : L'.length ≤ lim) (hv : ∀ k, rv1.ownBlock = some k → rv.ownBlock = some k ∨ w.heap.size ≤ k) :
    ((w3.setCell ⟨w.heap.size + 2, 0, none⟩ (.int .i64 lim2)).setCell ⟨w.heap.size + 2, 1, none⟩ rv1).heap[w.heap.size + 2]? = some (.cells #[.int .i64 lim2, rv1] 42 (0, 0)) ∧
    DPost w g lim sv rv rv1 ((w3.setCell ⟨w.heap.size + 2, 0, none⟩ (.int .i64 lim2)).setCell ⟨w.heap.size + 2, 1, none⟩ rv1) := by
  have hnew := hT.new
  have hfar := hT.r.far hT.q hT.ne
  have hfar1 : ∀ k, rv1.ownBlock = some k → ¬ qb g sv k := by
    intro k hk1
    rcases hv k hk1 with h | h
    · exact hfar k h
    · exact hnew _ h
  have hr3 := hr.kp hk hfar1
  have hwb : Kp (qb g sv) w w3 := (Kp.of_below hb _).trans hk
  have hks : Kp (fun k => k = w.heap.size + 2) w3 ((w3.setCell ⟨w.heap.size + 2, 0, none⟩ (.int .i64 lim2)).setCell ⟨w.heap.size + 2, 1, none⟩ rv1) := ((Kp.refl (fun k => k = w.heap.size + 2) w3).setCell (p := ⟨w.heap.size + 2, 0, none⟩) (.inl rfl) _).setCell (p := ⟨w.heap.size + 2, 1, none⟩) (.inl rfl) _
  have hgl := hT.q.lt
  refine ⟨res_done hx, L', sv3, R1, ⟨hq.kp hks (by show ¬ g = w.heap.size + 2; omega) ?_, hr3.kp hks ?_, hc, ?_, hl⟩, ?_, ?_, hv⟩
  · rintro k hk1 rfl
    exact own_ne_blk hq.2 hx (by decide) hk1.symm
  · rintro k hk1 rfl
    exact own_ne_blk hr3 hx (by decide) hk1.symm
  · intro k h1 h2
    have h3 := hr.lt k h2
    rcases ho with h | ⟨k', h, h4⟩
    · rcases hv k h2 with h5 | h5
      · exact hT.ne k (h.symm.trans h1) h5
      · have := hT.q.own_lt (h.symm.trans h1); omega
    · rw [h] at h1; injection h1 with e; omega
  · exact (hwb.setCell (p := ⟨w.heap.size + 2, 0, none⟩) (.inr (Nat.le_add_right _ _)) _).setCell (p := ⟨w.heap.size + 2, 1, none⟩) (.inr (Nat.le_add_right _ _)) _
  · rcases ho with h | ⟨k', h, h4⟩
    · exact .inl h
    · exact .inr ⟨k', h, Nat.le_trans hb.size h4⟩

set_option maxRecDepth 100000 in
set_option maxHeartbeats 2000000 in
theorem does_put (g : Nat) (lim t m f s : Int) (v : ByteArray) (a : Bool) (L R : List Ev) (sv : Value) (A : Option Addr) (n c : Nat) (w : World) (hp : 0 < lim) (hm : lim ≤ 4096) (hT : Two w g lim L sv R (.slice A n c)) (hL : R.length = n) :
    Calls Try.prog 16 #[.pointer (some ⟨g, 0, none⟩), .agg #[.int .i64 lim, .slice A n c], .agg #[.int .i64 1, .int .i64 t, .int .i64 m, .string v, .int .i64 f, .int .i64 s, .bool a]] w
      fun e w' => ∃ rv', e = .returned (.tuple #[.agg #[.int .i64 lim, rv'], .bool true]) ∧ DPost w g lim sv (.slice A n c) rv' w' := by
  have hnq := hT.new
  have HN := Lib.hid hnq
  clear hnq
  have HT := Lib.hid hT
  have HT0 := Lib.hid hT
  have HL := Lib.hid hL
  have hb3 := boxes3 w #[.int .i64 lim, .slice A n c] #[.int .i64 1, .int .i64 t, .int .i64 m, .string v, .int .i64 f, .int .i64 s, .bool a] #[.int .i64 0, .slice none 0 0] 42 46 42
  have Hb3 := Lib.hid hb3
  clear hb3 hT hL
  go_enter Try.func16, Try.ntmps16
  go_wp2_with fail
  have hcl := rput_any lim A n c R ⟨t, m, v, f, s, a⟩ _ HL.out (by have := HT.out.le; have := HT.out.c.len; have := HL.out; omega) hm (HT.out.below Hb3.out.1).r.rd'
  unfold Ev.cs at hcl
  dsimp only at hcl
  generalize (((w.alloc (.cells #[.int .i64 lim, .slice A n c] 42)).alloc (.cells #[.int .i64 1, .int .i64 t, .int .i64 m, .string v, .int .i64 f, .int .i64 s, .bool a] 46)).alloc (.cells #[.int .i64 0, .slice none 0 0] 42)) = W at *
  with_reducible refine hcl.mono ?_
  clear hcl
  intro e w1 hrp
  obtain ⟨hbb, hbs, hx0, hx1, hx2⟩ := Hb3.out
  obtain ⟨A1, n1, c1, R1, rfl, hb1, hr1, hc1, hl1, hv1⟩ := put_facts (HT.out.below hbb) _ hrp
  have hT1 := (HT.out.below hbb).below hb1
  replace hx0 := (hb1.block _ (by omega)).trans hx0
  replace hx1 := (hb1.block _ (by omega)).trans hx1
  replace hx2 := (hb1.block _ (by omega)).trans hx2
  have hbA : Below w1.heap.size w1 (w1.alloc (.cells #[.int .i64 lim, .slice A1 n1 c1] 42)) := (Below.refl _ _).alloc (Nat.le_refl _) _
  have hs1 := hb1.size
  replace hx0 := (hbA.block _ (by omega)).trans hx0
  replace hx1 := (hbA.block _ (by omega)).trans hx1
  replace hx2 := (hbA.block _ (by omega)).trans hx2
  have hx8 := heap_alloc_new w1 (.cells #[.int .i64 lim, .slice A1 n1 c1] 42)
  have hT2 := hT1.below hbA
  have hr2 := hr1.below hbA
  have hb2 := (hbb.trans (hb1.mono hbb.size)).trans (hbA.mono (by have := hbb.size; omega))
  have Hx1 := Lib.hid hx1
  have Hx2 := Lib.hid hx2
  have Hx8 := Lib.hid hx8
  have HT2 := Lib.hid hT2
  have Hr2 := Lib.hid hr2
  have Hb2 := Lib.hid hb2
  have Hc1 := Lib.hid hc1
  have Hl1 := Lib.hid hl1
  replace hv1 : ∀ k, (Value.slice A1 n1 c1).ownBlock = some k → (Value.slice A n c).ownBlock = some k ∨ w.heap.size ≤ k := fun k h => (hv1 k h).imp (fun h => h) (fun h => by omega)
  have Hv1 := Lib.hid hv1
  have Hs := Lib.hid (show w.heap.size + 3 ≤ w1.heap.size by omega)
  clear hx0 hx1 hx2 hx8 hT1 hT2 hr1 hr2 hb2 hbb hbs hb1 hbA hs1 hc1 hl1 hv1 Hb3 HT hrp
  go_wp2_with fail
  generalize hW2 : (w1.alloc (.cells #[.int .i64 lim, .slice A1 n1 c1] 42)) = w2 at *
  have HW2 := Lib.hid hW2
  clear hW2
  have e0 := blk_cell Hx1.out 1
  have e1 := blk_cell Hx1.out 2
  have e2 := blk_cell Hx1.out 3
  have e3 := blk_cell Hx1.out 4
  have e4 := blk_cell Hx1.out 5
  have e5 := blk_cell Hx1.out 6
  have z0 : w2.cell? ⟨w.heap.size + 1 + 1, 0, none⟩ = _ := blk_cell Hx2.out 0
  have z1 : w2.cell? ⟨w.heap.size + 1 + 1, 1, none⟩ = _ := blk_cell Hx2.out 1
  have g0 : w2.frozen? ⟨w.heap.size + 1 + 1, 0, none⟩ = _ := blk_frozen Hx2.out 0
  have g1 : w2.frozen? ⟨w.heap.size + 1 + 1, 1, none⟩ = _ := blk_frozen Hx2.out 1
  have x0 := blk_cell Hx8.out 0
  have x1 := blk_cell Hx8.out 1
  have hpu := put_any g lim L ⟨t, m, v, f, s, a⟩ sv w2.drew hp HT2.out.le hm HT2.out.q
  unfold Ev.cs QPost at hpu
  dsimp only at hpu
  have Hpu := Lib.hid hpu
  clear hpu
  have hN2 : Hid (¬ qb g sv (w.heap.size + 2)) := HN.out _ (by omega)
  have hN8 : Hid (¬ qb g sv w1.heap.size) := HN.out _ (by have := Hs.out; omega)
  go_region_with (go_at_call 10; (have hpu := Hpu.out; with_reducible refine hpu.mono ?_; clear hpu; rintro e w3 ⟨rfl, sv3, q3, o3, k3⟩; have k3' : Kp (qb g sv) w2 w3 := k3.of_drew; have hx2 := k3'.blk Hx2.out hN2.out; have hx8 := k3'.blk Hx8.out hN8.out; have z0 : w3.cell? ⟨w.heap.size + 1 + 1, 0, none⟩ = _ := (blk_cell hx2 0); have z1 : w3.cell? ⟨w.heap.size + 1 + 1, 1, none⟩ = _ := (blk_cell hx2 1); have g0 : w3.frozen? ⟨w.heap.size + 1 + 1, 0, none⟩ = _ := (blk_frozen hx2 0); have g1 : w3.frozen? ⟨w.heap.size + 1 + 1, 1, none⟩ = _ := (blk_frozen hx2 1); have x0 := (blk_cell hx8 0); have x1 := (blk_cell hx8 1); have HX2 := (Lib.hid hx2); have Q3 := (Lib.hid q3); have O3 := (Lib.hid o3); have K3 := (Lib.hid k3'); clear hx2 hx8 q3 o3 k3 k3'))
  all_goals
    have hdn := does_done (lim2 := lim) HT0.out Hb2.out K3.out HX2.out Q3.out O3.out Hr2.out Hc1.out Hl1.out Hv1.out
    have Hdn := Lib.hid hdn
    clear hdn
    go_wp2
    refine bodyPost_ret (res_ct rfl _ _ (w.heap.size + 2) 42 _ (0, 0) _ rfl Hdn.out.1 Try.underlying42 rfl (size42 _ _)) rfl ?_
    exact ⟨_, rfl, Hdn.out.2⟩

theorem cancel_facts {w w1 : World} {g : Nat} {lim : Int} {L R : List Ev} {sv rv : Value} {e : Ending} (hT : Two w g lim L sv R rv) (f s : Int) (h : RCan w lim R f s rv e w1) :
    ∃ A1 n1 c1 R1, e = .returned (.tuple #[.agg #[.int .i64 lim, .slice A1 n1 c1], .bool (cancelE L f s).1]) ∧ Below w.heap.size w w1 ∧ RR w1 (.slice A1 n1 c1) R1 ∧ Cpl (cancelE L f s).2 R1 ∧ (cancelE L f s).2.length ≤ lim ∧
      (∀ k, (Value.slice A1 n1 c1).ownBlock = some k → rv.ownBlock = some k ∨ w.heap.size ≤ k) := by
  obtain ⟨v', rfl, hb, h2⟩ := h
  obtain ⟨p1, p2⟩ := hT.c.cancel f s
  rw [p1]
  rcases h2 with ⟨k0, rfl⟩ | ⟨k0, ho⟩
  · rcases p2 with ⟨_, q1⟩ | ⟨q0, _⟩
    · obtain ⟨A1, c1, rfl, _⟩ := hT.r.rd
      rw [q1]
      exact ⟨A1, _, c1, R, rfl, hb, hT.r.below hb, hT.c, hT.le, fun k h => .inl h⟩
    · omega
  · rcases p2 with ⟨q0, _⟩ | ⟨_, q3⟩
    · omega
    · obtain ⟨A1, c1, rfl⟩ := own_slice' ho
      have hl := q3.len
      have hl2 := hT.c.len
      have hl3 := hT.le
      have hl4 := List.length_eraseIdx_le R (idxP (sameNo f s) R).toNat
      exact ⟨A1, _, c1, _, rfl, hb, own_lower ho (Nat.zero_le _), q3, by omega, fun k h => .inr (own_base ho k h)⟩

set_option maxRecDepth 100000 in
set_option maxHeartbeats 2000000 in
theorem does_cancel (g : Nat) (lim t m f s : Int) (v : ByteArray) (a : Bool) (L R : List Ev) (sv : Value) (A : Option Addr) (n c : Nat) (w : World) (hp : 0 < lim) (hm : lim ≤ 4096) (hT : Two w g lim L sv R (.slice A n c)) (hL : R.length = n) :
    Calls Try.prog 16 #[.pointer (some ⟨g, 0, none⟩), .agg #[.int .i64 lim, .slice A n c], .agg #[.int .i64 4, .int .i64 t, .int .i64 m, .string v, .int .i64 f, .int .i64 s, .bool a]] w
      fun e w' => ∃ rv', e = .returned (.tuple #[.agg #[.int .i64 lim, rv'], .bool true]) ∧ DPost w g lim sv (.slice A n c) rv' w' := by
  have hnq := hT.new
  have HN := Lib.hid hnq
  clear hnq
  have HT := Lib.hid hT
  have HT0 := Lib.hid hT
  have HL := Lib.hid hL
  have hb3 := boxes3 w #[.int .i64 lim, .slice A n c] #[.int .i64 4, .int .i64 t, .int .i64 m, .string v, .int .i64 f, .int .i64 s, .bool a] #[.int .i64 0, .slice none 0 0] 42 46 42
  have Hb3 := Lib.hid hb3
  clear hb3 hT hL
  go_enter Try.func16, Try.ntmps16
  go_wp2_with fail
  have hcl := rcancel_any lim f s A n c R _ HL.out (by have := HT.out.le; have := HT.out.c.len; have := HL.out; omega) (HT.out.below Hb3.out.1).r.rd'
  generalize (((w.alloc (.cells #[.int .i64 lim, .slice A n c] 42)).alloc (.cells #[.int .i64 4, .int .i64 t, .int .i64 m, .string v, .int .i64 f, .int .i64 s, .bool a] 46)).alloc (.cells #[.int .i64 0, .slice none 0 0] 42)) = W at *
  with_reducible refine hcl.mono ?_
  clear hcl
  intro e w1 hrp
  obtain ⟨hbb, hbs, hx0, hx1, hx2⟩ := Hb3.out
  obtain ⟨A1, n1, c1, R1, rfl, hb1, hr1, hc1, hl1, hv1⟩ := cancel_facts (HT.out.below hbb) f s hrp
  have hT1 := (HT.out.below hbb).below hb1
  replace hx0 := (hb1.block _ (by omega)).trans hx0
  replace hx1 := (hb1.block _ (by omega)).trans hx1
  replace hx2 := (hb1.block _ (by omega)).trans hx2
  have hbA : Below w1.heap.size w1 (w1.alloc (.cells #[.int .i64 lim, .slice A1 n1 c1] 42)) := (Below.refl _ _).alloc (Nat.le_refl _) _
  have hs1 := hb1.size
  replace hx0 := (hbA.block _ (by omega)).trans hx0
  replace hx1 := (hbA.block _ (by omega)).trans hx1
  replace hx2 := (hbA.block _ (by omega)).trans hx2
  have hx8 := heap_alloc_new w1 (.cells #[.int .i64 lim, .slice A1 n1 c1] 42)
  have hT2 := hT1.below hbA
  have hr2 := hr1.below hbA
  have hb2 := (hbb.trans (hb1.mono hbb.size)).trans (hbA.mono (by have := hbb.size; omega))
  have Hx1 := Lib.hid hx1
  have Hx2 := Lib.hid hx2
  have Hx8 := Lib.hid hx8
  have HT2 := Lib.hid hT2
  have Hr2 := Lib.hid hr2
  have Hb2 := Lib.hid hb2
  have Hc1 := Lib.hid hc1
  have Hl1 := Lib.hid hl1
  replace hv1 : ∀ k, (Value.slice A1 n1 c1).ownBlock = some k → (Value.slice A n c).ownBlock = some k ∨ w.heap.size ≤ k := fun k h => (hv1 k h).imp (fun h => h) (fun h => by omega)
  have Hv1 := Lib.hid hv1
  have Hs := Lib.hid (show w.heap.size + 3 ≤ w1.heap.size by omega)
  clear hx0 hx1 hx2 hx8 hT1 hT2 hr1 hr2 hb2 hbb hbs hb1 hbA hs1 hc1 hl1 hv1 Hb3 HT hrp
  go_wp2_with fail
  generalize hW2 : (w1.alloc (.cells #[.int .i64 lim, .slice A1 n1 c1] 42)) = w2 at *
  have HW2 := Lib.hid hW2
  clear hW2
  have e3 := blk_cell Hx1.out 4
  have e4 := blk_cell Hx1.out 5
  have e5 := blk_cell Hx1.out 6
  have z0 : w2.cell? ⟨w.heap.size + 1 + 1, 0, none⟩ = _ := blk_cell Hx2.out 0
  have z1 : w2.cell? ⟨w.heap.size + 1 + 1, 1, none⟩ = _ := blk_cell Hx2.out 1
  have g0 : w2.frozen? ⟨w.heap.size + 1 + 1, 0, none⟩ = _ := blk_frozen Hx2.out 0
  have g1 : w2.frozen? ⟨w.heap.size + 1 + 1, 1, none⟩ = _ := blk_frozen Hx2.out 1
  have x0 := blk_cell Hx8.out 0
  have x1 := blk_cell Hx8.out 1
  have hpu := cancel_any g lim L f s sv w2.drew hp HT2.out.le hm HT2.out.q
  unfold QPost at hpu
  have Hpu := Lib.hid hpu
  clear hpu
  have hN2 : Hid (¬ qb g sv (w.heap.size + 2)) := HN.out _ (by omega)
  have hN8 : Hid (¬ qb g sv w1.heap.size) := HN.out _ (by have := Hs.out; omega)
  go_region_with (go_at_call 14; (have hpu := Hpu.out; with_reducible refine hpu.mono ?_; clear hpu; rintro e w3 ⟨rfl, sv3, q3, o3, k3⟩; have k3' : Kp (qb g sv) w2 w3 := k3.of_drew; have hx2 := k3'.blk Hx2.out hN2.out; have hx8 := k3'.blk Hx8.out hN8.out; have z0 : w3.cell? ⟨w.heap.size + 1 + 1, 0, none⟩ = _ := (blk_cell hx2 0); have z1 : w3.cell? ⟨w.heap.size + 1 + 1, 1, none⟩ = _ := (blk_cell hx2 1); have g0 : w3.frozen? ⟨w.heap.size + 1 + 1, 0, none⟩ = _ := (blk_frozen hx2 0); have g1 : w3.frozen? ⟨w.heap.size + 1 + 1, 1, none⟩ = _ := (blk_frozen hx2 1); have x0 := (blk_cell hx8 0); have x1 := (blk_cell hx8 1); have HX2 := (Lib.hid hx2); have Q3 := (Lib.hid q3); have O3 := (Lib.hid o3); have K3 := (Lib.hid k3'); clear hx2 hx8 q3 o3 k3 k3'))
  all_goals
    have hdn := does_done (lim2 := lim) HT0.out Hb2.out K3.out HX2.out Q3.out O3.out Hr2.out Hc1.out Hl1.out Hv1.out
    have Hdn := Lib.hid hdn
    clear hdn
    go_wp2
    refine bodyPost_ret (res_ct rfl _ _ (w.heap.size + 2) 42 _ (0, 0) _ rfl Hdn.out.1 Try.underlying42 rfl (size42 _ _)) rfl ?_
    exact ⟨_, rfl, Hdn.out.2⟩
end Go.Proofs.Ytebcbjmdkbmnkaa
