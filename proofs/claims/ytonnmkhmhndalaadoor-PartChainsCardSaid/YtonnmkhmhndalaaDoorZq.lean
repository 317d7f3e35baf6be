/- part.Run: what it comes to; what its walk wants. part.Run, walked. part.Run: what it comes to, for netlists that may be and have no loop, and else. Rows of nodes, of numbers, of rows in memory, cell by cell. What must come, whatever the arguments are: parts of a small netlist. -/
import Derived.Test.YtonnmkhmhndalaaDoorZp
import Derived.Test.YtonnmkhmhndalaaDoorZn
import Derived.Test.YtonnmkhmhndalaaDoorZd
import Derived.Test.YtonnmkhmhndalaaDoorZf
import Derived.Test.YtonnmkhmhndalaaDoorZa
section
namespace Go.Proofs.YtonnmkhmhndalaaDoor
set_option linter.unusedVariables false
set_option linter.unusedSimpArgs false
open Go.RowKit Go.Proofs.YtonnmkhmhndalaaDoorW.PrintWords Go.Proofs.YtonnmkhmhndalaaDoorW.PrintLast Go.Proofs.YtonnmkhmhndalaaDoorW.PrintMore
structure QBx (W : World) (R : Nat) : Prop where mk ::
  blk : W.heap[R]? = some (.cells #[.slice none 0 0, .int .i64 0, .slice none 0 0] 46)
theorem QBx.belowB {W W' : World} {R B : Nat} (h : QBx W R) (hb : Below B W W') (hR : R < B) : QBx W' R := ⟨(hb.block R hR).trans h.blk⟩
abbrev noParts : Value := .agg #[.slice none 0 0, .int .i64 0, .slice none 0 0]
structure PMem (w w' : World) (x : NL) (k : Int) (p : PV) (Bo D N : Nat) : Prop where
  may : PMay x.nd p
  n : p.n = (N : Int)
  k : (N : Int) ≤ k
  l : N ≤ x.nd.length
  of : Cl (Value.int .i64) w' Bo x.nd.length (fun i => p.of.getD i 0)
  ah : AMem w' D N (fun i j => (p.ah.getD i []).getD j 0)
  s1 : w.heap.size ≤ Bo
  s2 : Bo < D
def PRunP (w : World) (x : NL) (k : Int) (e : Ending) (w' : World) : Prop :=
  Below w.heap.size w w' ∧ ((¬ (1 ≤ k ∧ k ≤ 64) ∧ e = .returned (.tuple #[noParts, .int .i64 1])) ∨ ((1 ≤ k ∧ k ≤ 64) ∧ ((mayL x = false ∧ e = .returned (.tuple #[noParts, .int .i64 1])) ∨
    (mayL x = true ∧ ∃ (out : Nat → Nat) (done : Nat → Bool) (cnt : Nat), LRes x.nd.length (hs x.nd) out done cnt ∧
      ((cnt < x.nd.length ∧ e = .returned (.tuple #[noParts, .int .i64 110])) ∨
       (cnt = x.nd.length ∧ x.nd.length = 0 ∧ e = .returned (.tuple #[noParts, .int .i64 1])) ∨
       (cnt = x.nd.length ∧ 0 < x.nd.length ∧ ∃ (p : PV) (Bo D N : Nat), e = .returned (.tuple #[.agg #[.slice (some ⟨Bo, 0, none⟩) x.nd.length x.nd.length, .int .i64 N, .slice (some ⟨D, 0, none⟩) N N], .int .i64 0]) ∧ PMem w w' x k p Bo D N))))))
theorem make76 (n : Nat) (hn : n ≤ 1000000) (W : World) : ∃ W', (Instr.makeSlice 76 (.int .i64 n) (.int .i64 n)).run Tryd.prog W = .ok (.slice (some ⟨W.heap.size, 0, none⟩) n n) W' ∧ Below W.heap.size W W' ∧ W'.heap.size = W.heap.size + 1 ∧ Cl eI W' W.heap.size n (fun _ => 0) := by
  obtain ⟨i0, hi, hzz⟩ := Option.map_eq_some_iff.1 info3
  simp only [Prod.mk.injEq] at hzz
  obtain ⟨hz0, hz1, hz2⟩ := hzz
  have h := run_make (P := Tryd.prog) W 76 3 i0 (.int .i64 0) Tryd.underlying76 hi hz0 .i64 .i64 (n : Int) (n : Int) (by omega) (by omega) (by rw [hz2]; omega) (by omega)
  rw [Int.toNat_natCast, hz1, Nat.mul_one] at h
  refine ⟨_, h, below_alloc (Below.refl _ _) _, by simp, ?_, ?_, by simp⟩
  · intro j hj
    simp [go_sem, madeCells, hj]
    rw [Nat.mod_one]
    rfl
  · intro j _
    simp [go_sem]
theorem grown_to_below {W W' : World} {b B : Nat} (h : W.grownBy W' (some b)) (hB : B ≤ b) (hs : B ≤ W.heap.size) : Below B W W' := (Below.refl B W).grown h hs (fun k hk => by injection hk with hk; omega)
theorem below_to_grown {W W' : World} (h : Below W.heap.size W W') (row : Option Nat) : W.grownBy W' row := ⟨h.os, h.tape, h.output, h.size, fun i hi _ => h.block i hi⟩
theorem GSt.below {w W W' : World} {n b : Nat} {root d : Nat → Nat} (h : GSt w W n b root d) (hb : Below W.heap.size W W') : GSt w W' n b root d := by
  obtain ⟨g, h1, h2⟩ := h.g
  exact ⟨⟨g, h1, h2.below hb h2.s⟩, h.h.trans (below_to_grown hb _)⟩
theorem GSt.here {w W : World} {n b : Nat} {root d : Nat → Nat} (h : GSt w W n b root d) : GSt W W n b root d := ⟨h.g, World.grownBy.refl _ _⟩
theorem GSt.trans {w W W' : World} {n b : Nat} {root d root' d' : Nat → Nat} (h : GSt w W n b root d) (h' : GSt W W' n b root' d') : GSt w W' n b root' d' := ⟨h'.g, h.h.trans h'.h⟩
theorem GSt.join {w W : World} {n b : Nat} {root d : Nat → Nat} (h : GSt w W n b root d) {i k : Nat} (hi : i < n) (hk : k < n) : GSt w (W.setCell ⟨b, root i, none⟩ (.int .i64 (root k : Nat))) n b (joinR root i k) (joinD root d i k) := by
  obtain ⟨g, h1, h2⟩ := h.g
  exact ⟨⟨_, h1.join hi hk, h2.set (root i) (root k)⟩, grown_set h.h _⟩
theorem GSt.cell {w W : World} {n b : Nat} {root d : Nat → Nat} (h : GSt w W n b root d) {i : Nat} (hi : i < n) : ∃ v, W.cell? ⟨b, i, none⟩ = some v ∧ W.frozen? ⟨b, i, none⟩ = false := by
  obtain ⟨g, h1, h2⟩ := h.g
  exact ⟨_, h2.c i hi, h2.f i hi⟩
theorem GSt.rl {w W : World} {n b : Nat} {root d : Nat → Nat} (h : GSt w W n b root d) {i : Nat} (hi : i < n) : root i < n := by
  obtain ⟨g, h1, h2⟩ := h.g
  exact h1.rl i hi
theorem GSt.r2 {w W : World} {n b : Nat} {root d : Nat → Nat} (h : GSt w W n b root d) {i : Nat} (hi : i < n) : root (root i) = root i := by
  obtain ⟨g, h1, h2⟩ := h.g
  exact h1.root2 hi
def One (nd : List S39) (root : Nat → Nat) (i : Nat) : Prop := ∀ a, a < i → (nd.getD a z39).f0 ≠ 8 → ∀ v ∈ (nd.getD a z39).f3, root v.toNat = root a
theorem One.join {nd : List S39} {root : Nat → Nat} {i : Nat} (h : One nd root i) (a b : Nat) : One nd (joinR root a b) i := fun j hj h8 v hv => joinR_eq (h j hj h8 v hv)
theorem grown_then {a b' c : World} {row row' : Option Nat} (h : a.grownBy b' row) (k : b'.grownBy c row') (hr : ∀ j, row' = some j → a.heap.size ≤ j ∨ row = some j) : a.grownBy c row :=
  ⟨k.os.trans h.os, k.tape.trans h.tape, k.output.trans h.output, Nat.le_trans h.size k.size, fun i hi hne =>
    (k.block i (Nat.lt_of_lt_of_le hi h.size) (fun e => by
      rcases hr i e.symm with h1 | h1
      · omega
      · exact hne h1.symm)).trans (h.block i hi hne)⟩
theorem GSt.other {w W W' : World} {n b : Nat} {root d : Nat → Nat} {row : Option Nat} (h : GSt w W n b root d) (hg : W.grownBy W' row) (hne : some b ≠ row) (hr : ∀ j, row = some j → w.heap.size ≤ j) : GSt w W' n b root d := by
  obtain ⟨g, h1, h2⟩ := h.g
  exact ⟨⟨g, h1, h2.move (hg.block b h2.s hne) hg.size⟩, grown_then h.h hg (fun j hj => Or.inl (hr j hj))⟩
theorem GSt.belowB {w W W' : World} {n b B : Nat} {root d : Nat → Nat} (h : GSt w W n b root d) (hb : Below B W W') (h1 : b < B) (h2 : w.heap.size ≤ B) : GSt w W' n b root d := by
  obtain ⟨g, u1, u2⟩ := h.g
  exact ⟨⟨g, u1, u2.below hb h1⟩, ⟨hb.os.trans h.h.os, hb.tape.trans h.h.tape, hb.output.trans h.h.output, Nat.le_trans h.h.size hb.size, fun i hi hne => (hb.block i (by omega)).trans (h.h.block i hi hne)⟩⟩
structure ZSt (W4 wx : World) (n Gb : Nat) (root dp : Nat → Nat) (Mz N : Nat) (all : List Nat) (f : Nat → Option Int) (v : Value) : Prop where
  g : GSt W4 wx n Gb root dp
  c : wx.cell? ⟨Mz + 1, 0, none⟩ = some (.map (some Mz))
  m : MI wx Mz N f
  r : Kd.R (Kd.int .i64) 3 wx (Mz + 2) (fun _ => True) v (ints all)
  z1 : Gb < W4.heap.size
  z2 : W4.heap.size ≤ Mz
  z3 : Mz + 2 ≤ wx.heap.size
section
variable {W4 wx w' : World} {n Gb : Nat} {root dp : Nat → Nat} {Mz N : Nat} {all : List Nat} {f : Nat → Option Int} {v : Value}
theorem R_grown {α : Type} {d : Kd α} {e base : Nat} {w w' : World} {v : Value} {xs : List α} {row : Option Nat} (h : d.R e w base (fun _ => True) v xs) (hg : w.grownBy w' row) (hr : ∀ j, row = some j → j < base) : d.R e w' base (fun _ => True) v xs :=
  Kd.R_mono (Kd.R_step (Kd.R_bound h) (fun k hk hlt => hg.block k hlt (fun e => by have := hr k e.symm; have := hk.2.1; omega))) (fun _ _ => trivial)
theorem ZSt.find (h : ZSt W4 wx n Gb root dp Mz N all f v) (hG : GSt wx w' n Gb root dp) : ZSt W4 w' n Gb root dp Mz N all f v := by
  have h1 := h.z1
  have h2 := h.z2
  exact ⟨h.g.trans hG, (hG.h.cell_far ⟨Mz + 1, 0, none⟩ (World.block_lt_of_cell? wx _ h.c) (fun e => by injection e with e; have e' : Mz + 1 = Gb := e; omega)).trans h.c, h.m.kept hG.h (fun e => by injection e with e; omega), R_grown h.r hG.h (fun j hj => by injection hj with hj; omega), h1, h2, Nat.le_trans h.z3 hG.h.size⟩
theorem ZSt.put (h : ZSt W4 wx n Gb root dp Mz N all f v) (k : Nat) (hk : k ≤ 9223372036854775807) (u : Int) (hv : (Lit.int .i64 u).wf = true) (hN : N < 9223372036854775807) :
    ∃ W', (Instr.mapUpdate 64 (.map (some Mz)) (.int .i64 (k : Int)) (.int .i64 u)).run Tryd.prog wx = .ok () W' ∧ ZSt W4 W' n Gb root dp Mz (N + 1) all (upd f k (some u)) v := by
  have h1 := h.z1
  have h2 := h.z2
  obtain ⟨W', hrun, hm, hg⟩ := h.m.store k hk u hv hN
  refine ⟨W', hrun, h.g.other hg (fun e => by injection e with e; omega) (fun j hj => by injection hj with hj; omega), ?_, hm, R_grown h.r hg (fun j hj => by injection hj with hj; omega), h1, h2, Nat.le_trans h.z3 hg.size⟩
  exact (hg.cell_far ⟨Mz + 1, 0, none⟩ (World.block_lt_of_cell? wx _ h.c) (fun e => by injection e with e; have e' : Mz + 1 = Mz := e; omega)).trans h.c
theorem own_ge {base e : Nat} {w : World} {xs : List Int} {v : Value} (h : Kd.R (Kd.int .i64) e w base (fun _ => True) v xs) : ∀ j, v.ownBlock = some j → base ≤ j := fun j hj => (Kd.R_bound h).1 j hj |>.2.1
theorem ZSt.app {w9 : World} {v1 : Value} {p : Nat} (h : ZSt W4 wx n Gb root dp Mz N all f v) (ho : Kd.R (Kd.int .i64) 3 w9 (Mz + 2) (fun _ => True) v1 (ints all ++ [(p : Int)])) (hg : wx.grownBy w9 v.ownBlock) : ZSt W4 w9 n Gb root dp Mz N (all ++ [p]) f v1 := by
  have h1 := h.z1
  have h2 := h.z2
  have hv := own_ge h.r
  refine ⟨h.g.other hg (fun e => by have := hv Gb e.symm; omega) (fun j hj => by have := hv j hj; omega), ?_, h.m.kept hg (fun e => by have := hv Mz e.symm; omega), by rw [ints_snoc]; exact ho, h1, h2, Nat.le_trans h.z3 hg.size⟩
  exact (hg.cell_far ⟨Mz + 1, 0, none⟩ (World.block_lt_of_cell? wx _ h.c) (fun e => by have := hv (Mz + 1) e.symm; omega)).trans h.c
end
theorem Rw.other {ev : SEnv} {W W' : World} {g : Nat} {l : List Nat} {row : Option Nat} (h : Rw ev W g l) (hg : W.grownBy W' row) (h1 : some g ≠ row) (h2 : some ev.S ≠ row) (h3 : some ev.mb ≠ row) : Rw ev W' g l :=
  ⟨fun j hj => (hg.cell_far ⟨g, j, none⟩ h.s h1).trans (h.c j hj), fun j hj => (hg.frozen_far ⟨g, j, none⟩ h.s h1).trans (h.f j hj), Nat.lt_of_lt_of_le h.s hg.size, ⟨(hg.cell_far ⟨ev.S, 0, none⟩ (World.block_lt_of_cell? W _ h.e.c) h2).trans h.e.c, h.e.m.kept hg h3⟩, h.n1, h.n2, h.b⟩
theorem Rw.far {ev : SEnv} {W : World} {g b k : Nat} {l : List Nat} {v : Value} (h : Rw ev W g l) (h1 : g ≠ b) (h2 : ev.S ≠ b) (h3 : ev.mb ≠ b) : Rw ev (W.setCell ⟨b, k, none⟩ v) g l :=
  ⟨fun j hj => (World.cell?_of_block (w := W) (Below.heap_setCell W _ v g h1)).trans (h.c j hj), fun j hj => (World.frozen?_of_block (w := W) (Below.heap_setCell W _ v g h1)).trans (h.f j hj), by simpa using h.s, h.e.set h2 h3, h.n1, h.n2, h.b⟩
theorem take_snoc (l : List Nat) (i : Nat) (hi : i < l.length) : l.take (i + 1) = l.take i ++ [l.getD i 0] := by
  rw [List.take_succ_eq_append_getElem hi, List.getD_eq_getElem?_getD, List.getElem?_eq_getElem hi]
  rfl
theorem not_take {l : List Nat} (h : l.Nodup) (i : Nat) (hi : i < l.length) : l.getD i 0 ∉ l.take i := by
  have h2 : (l.take (i + 1)).Nodup := h.sublist (List.take_sublist _ _)
  rw [take_snoc l i hi, List.nodup_append] at h2
  intro hm
  exact h2.2.2 _ hm _ (List.mem_singleton.2 rfl) rfl
theorem AMem.far {W : World} {D N b j : Nat} {F : Nat → Nat → Int} {v : Value} (h : AMem W D N F) (hb : b < D) : AMem (W.setCell ⟨b, j, none⟩ v) D N F :=
  ⟨h.c.far (by omega) _, fun i hi => (h.r i hi).far (by omega) _⟩
theorem range_getD (n : Nat) (f : Nat → Int) (i : Nat) (hi : i < n) : ((List.range n).map f).getD i 0 = f i := by
  rw [List.getD_eq_getElem?_getD, List.getElem?_map, List.getElem?_range hi]; rfl
end Go.Proofs.YtonnmkhmhndalaaDoor
end
section
namespace Go.Proofs.YtonnmkhmhndalaaDoor
set_option linter.unusedVariables false
set_option linter.unusedSimpArgs false
open Go.RowKit Go.Proofs.YtonnmkhmhndalaaDoorW.PrintWords Go.Proofs.YtonnmkhmhndalaaDoorW.PrintLast Go.Proofs.YtonnmkhmhndalaaDoorW.PrintMore
set_option maxRecDepth 100000 in
set_option maxHeartbeats 16000000 in
theorem prun_any (x : NL) (A : Option Addr) (c : Nat) (B : Option Addr) (d : Nat) (k : Int) (w : World) (hI : NIn w x A c B d) :
    Calls Tryd.prog 21 #[nlV x A c B d, .int .i64 k] w (PRunP w x k) := by
  obtain ⟨n, hn⟩ : ∃ n, x.nd.length = n := ⟨_, rfl⟩
  have HI := Lib.hid hI
  have HN := Lib.hid hn
  clear hI
  obtain ⟨W0, hW0⟩ : ∃ W, w.alloc (Obj.cells #[.slice A n c, .slice B x.nt.length d, .int .i64 x.pt] 25) = W := ⟨_, rfl⟩
  obtain ⟨hx0, hb0, hz0⟩ := box_list hW0
  obtain ⟨W1, hW1⟩ : ∃ W, W0.alloc (Obj.cells #[.slice none 0 0, .int .i64 0, .slice none 0 0] 46) = W := ⟨_, rfl⟩
  have hb1 : Below W0.heap.size W0 W1 := by rw [← hW1]; exact below_alloc (Below.refl _ _) _
  have hz1 : W1.heap.size = W0.heap.size + 1 := by rw [← hW1]; simp
  have hr1 : QBx W1 W0.heap.size := ⟨by rw [← hW1]; exact blk_new _ _⟩
  obtain ⟨P, hPs⟩ : ∃ P, w.heap.size = P := ⟨_, rfl⟩
  rw [hz0, hPs] at hr1
  rw [hPs] at hx0
  have HX1 := Lib.hid (hx0.below hb1)
  have HR1 := Lib.hid hr1
  have HB1 := Lib.hid (hb0.trans (hb1.mono (by omega)))
  have HPs := Lib.hid hPs
  have HZ1 := Lib.hid (show W1.heap.size = P + 2 by omega)
  have HZ0 := Lib.hid (show W0.heap.size = P + 1 by omega)
  clear hx0 hb0 hz0 hb1 hz1 hr1
  by_cases hk : 1 ≤ k ∧ k ≤ 64
  · obtain ⟨hk1, hk2⟩ := hk
    have gk1 : decide (k < 1) = false := decide_eq_false (by omega)
    have gk2 : decide (k > 64) = false := decide_eq_false (by omega)
    have gk3 : decide (64 < k) = false := decide_eq_false (by omega)
    have HK := Lib.hid (And.intro hk1 hk2)
    have hrun : Calls Tryd.prog 13 #[.agg #[.slice A n c, .slice B x.nt.length d, .int .i64 x.pt]] W1 (RunP W1 x) := by
      have h := run_any x A c B d W1 (HI.out.below HB1.out)
      dsimp only [nlV] at h
      rw [hn] at h
      exact h
    have HRun := Lib.hid hrun
    go_enter Tryd.func21, Tryd.ntmps21
    go_upto_region 3 with fail
    try rw [HZ0.out]
    obtain ⟨y0, y1, y2⟩ := HX1.out
    clear hrun hW0 hW1 hn gk1 gk2 gk3
    go_wp2_with fail
    refine HRun.out.mono ?_
    rintro e w3 ⟨hb3, hc3⟩
    have HX3 := Lib.hid (HX1.out.below hb3)
    have HR3 := Lib.hid (HR1.out.belowB hb3 (by have := HZ1.out; omega))
    have HB3 := Lib.hid (HB1.out.trans (hb3.mono HB1.out.size))
    have HZ3 := Lib.hid (Nat.le_trans (Nat.le_of_eq HZ1.out.symm) hb3.size)
    clear hb3 y0 y1 y2 HX1 HR1 HB1 HRun hk1 hk2
    rcases hc3 with ⟨hm, rfl⟩ | ⟨hm, out, done, cnt, hres, hc3⟩
    · have HM := Lib.hid hm
      clear hm
      have b0 := blk_cell HR3.out.blk 0
      have b1 := blk_cell HR3.out.blk 1
      have b2 := blk_cell HR3.out.blk 2
      have g0 := blk_frozen HR3.out.blk 0
      have g1 := blk_frozen HR3.out.blk 1
      have g2 := blk_frozen HR3.out.blk 2
      go_wp2_with fail
      refine bodyPost_ret (v := .tuple #[noParts, .int .i64 1]) (by simp [results, Tryd.results21, go_sem, b0, b1, b2]) rfl ⟨?_, Or.inr ⟨HK.out, Or.inl ⟨HM.out, rfl⟩⟩⟩
      exact below_set2 (by rw [HPs.out]; omega) (below_set2 (by rw [HPs.out]; omega) (below_set2 (by rw [HPs.out]; omega) HB3.out))
    · have HM := Lib.hid hm
      have HRes := Lib.hid hres
      clear hm hres
      rcases hc3 with ⟨hlt, rfl⟩ | ⟨heq, D0, -, rfl, -⟩
      · have HLt := Lib.hid hlt
        clear hlt
        have b0 := blk_cell HR3.out.blk 0
        have b1 := blk_cell HR3.out.blk 1
        have b2 := blk_cell HR3.out.blk 2
        have g0 := blk_frozen HR3.out.blk 0
        have g1 := blk_frozen HR3.out.blk 1
        have g2 := blk_frozen HR3.out.blk 2
        go_wp2_with fail
        refine bodyPost_ret (v := .tuple #[noParts, .int .i64 110]) (by simp [results, Tryd.results21, go_sem, b0, b1, b2]) rfl ⟨?_, Or.inr ⟨HK.out, Or.inr ⟨HM.out, out, done, cnt, HRes.out, Or.inl ⟨HLt.out, rfl⟩⟩⟩⟩
        exact below_set2 (by rw [HPs.out]; omega) (below_set2 (by rw [HPs.out]; omega) (below_set2 (by rw [HPs.out]; omega) HB3.out))
      · have HEq := Lib.hid heq
        clear heq
        rw [HN.out]
        obtain ⟨y0, y1, y2⟩ := HX3.out
        by_cases hn0 : n = 0
        · have HN0 := Lib.hid hn0
          have gn0 : ((n : Int) == 0) = true := by rw [hn0]; rfl
          clear hn0
          have b0 := blk_cell HR3.out.blk 0
          have b1 := blk_cell HR3.out.blk 1
          have b2 := blk_cell HR3.out.blk 2
          have g0 := blk_frozen HR3.out.blk 0
          have g1 := blk_frozen HR3.out.blk 1
          have g2 := blk_frozen HR3.out.blk 2
          go_wp2_with fail
          refine bodyPost_ret (v := .tuple #[noParts, .int .i64 1]) (by simp [results, Tryd.results21, go_sem, b0, b1, b2]) rfl ⟨?_, Or.inr ⟨HK.out, Or.inr ⟨HM.out, out, done, cnt, HRes.out, Or.inr (Or.inl ⟨HEq.out, HN.out.trans HN0.out, rfl⟩)⟩⟩⟩
          exact below_set2 (by rw [HPs.out]; omega) (below_set2 (by rw [HPs.out]; omega) (below_set2 (by rw [HPs.out]; omega) HB3.out))
        · have gn0 : ((n : Int) == 0) = false := beq_eq_false_iff_ne.2 (by omega)
          have HN0 := Lib.hid (show 0 < n by omega)
          clear hn0
          go_upto_region 8 with fail
          have hmay := (may_iff x).1 HM.out
          have hn4 : n ≤ 4096 := by rw [← HN.out]; exact hmay.n
          have HMy := Lib.hid hmay
          have HN4 := Lib.hid hn4
          obtain ⟨W4, m4, hb4, hz4, hu4⟩ := make76 n (by omega) w3
          obtain ⟨Gb, hGb⟩ : ∃ g, w3.heap.size = g := ⟨_, rfl⟩
          rw [hGb] at m4 hz4 hu4 HZ3
          have HX4 := Lib.hid (HX3.out.below hb4)
          have HR4 := Lib.hid (HR3.out.belowB hb4 (by rw [hGb]; have := HZ3.out; omega))
          have HB4 := Lib.hid (HB3.out.trans (hb4.mono HB3.out.size))
          have HZ4 := Lib.hid (show P + 2 ≤ Gb ∧ W4.heap.size = Gb + 1 from ⟨HZ3.out, hz4⟩)
          have HU4 := Lib.hid (hu4.size (g := fun j => if j < 0 then j else 0) fun j _ => (if_neg (Nat.not_lt_zero j)).symm)
          clear hmay hb4 hz4 hu4 hGb
          go_upto_region 10 with fail
          clear m4 y0 y1 y2 HX3 HR3 HB3 HZ3
          go_loopw [9, 53] (fun _ v53 wx => ∃ i : Nat, v53 = .int .i64 i ∧ i ≤ n ∧ Hid (Cl eI wx Gb n (fun j => if j < i then j else 0)) ∧ Hid (W4.grownBy wx (some Gb))) (fun _ v53 _ => n - (intOf v53).toNat)
          case atStart => exact ⟨0, rfl, Nat.zero_le _, HU4, Lib.hid (World.grownBy.refl _ _)⟩
          case round =>
            obtain ⟨i, rfl, hi, HU, HG⟩ := hrel
            by_cases hlt : i < n
            · have HLt := Lib.hid hlt
              have c1 := HU.out.c i hlt
              have c2 := HU.out.f i hlt
              have HUn := Lib.hid ((HU.out.set i i).size (g := fun j => if j < i + 1 then j else 0) fun j _ => by
                by_cases e : j = i
                · subst e; rw [upd_same, if_pos (Nat.lt_succ_self j)]
                · rw [upd_ne _ _ e]
                  by_cases e2 : j < i
                  · rw [if_pos e2, if_pos (by omega)]
                  · rw [if_neg e2, if_neg (by omega)])
              have HGn := Lib.hid (grown_set (k := i) HG.out (eI i))
              go_wp2_with fail
              refine ⟨⟨i + 1, by simp, HLt.out, HUn, HGn⟩, by have := HLt.out; simp [intOf]; omega⟩
            · obtain rfl : n = i := by omega
              have HGs : Hid (GSt W4 wr n Gb (fun j => j) (fun _ => 0)) := Lib.hid ⟨⟨_, Uf.start n, HU.out.size fun j hj => if_pos hj⟩, HG.out⟩
              obtain ⟨y0, y1, y2⟩ := HX4.out.belowB (grown_to_below HG.out (Nat.le_refl _) (by have := HZ4.out; omega)) (by have := HZ4.out; omega)
              clear hlt hi HU HG
              go_upto_region 15 with fail
              clear y0 y1 y2
              have hgB : ∀ W, W4.grownBy W (some Gb) → Below w.heap.size w W ∧ LBx W P n x.nt.length x.pt A c B d ∧ QBx W (P + 1) := fun W hg =>
                ⟨HB4.out.trans (grown_to_below hg (by rw [HPs.out]; have := HZ4.out; omega) (by rw [HPs.out]; have := HZ4.out; omega)), HX4.out.belowB (grown_to_below hg (Nat.le_refl _) (by have := HZ4.out; omega)) (by have := HZ4.out; omega), HR4.out.belowB (grown_to_below hg (Nat.le_refl _) (by have := HZ4.out; omega)) (by have := HZ4.out; omega)⟩
              have HgB := Lib.hid hgB
              clear hgB
              go_loopw [10, 11, 13, 64] (fun _ _ _ v64 wx => ∃ (i : Nat) (root dp : Nat → Nat), v64 = .int .i64 i ∧ i ≤ n ∧ Hid (GSt W4 wx n Gb root dp) ∧ Hid (One x.nd root i)) (fun _ _ _ v64 _ => n - (intOf v64).toNat)
              case atStart => exact ⟨0, _, _, rfl, Nat.zero_le _, HGs, Lib.hid (fun a ha => absurd ha (Nat.not_lt_zero a))⟩
              case round =>
                obtain ⟨i, root, dp, rfl, hi, HGx, HO⟩ := hrel
                by_cases hlt : i < n
                · have HLt := Lib.hid hlt
                  have hk' : i < x.nd.length := by rw [HN.out]; exact hlt
                  have HWx := Lib.hid (HgB.out _ HGx.out.h).1
                  obtain ⟨b, o, A3, c3, hAn, hl3, hbs, hND⟩ := nodes_in HI.out.h0 i hk'
                  subst hAn
                  have hins := HMy.out.ins i hk'
                  have hlen := HI.out.b0 (x.nd.getD i z39) (by rw [List.getD_eq_getElem?_getD, List.getElem?_eq_getElem hk']; exact List.getElem_mem hk')
                  have HOi : Hid (∀ root' : Nat → Nat, One x.nd root' i → ((x.nd.getD i z39).f0 ≠ 8 → ∀ v ∈ (x.nd.getD i z39).f3, root' v.toNat = root' i) → One x.nd root' (i + 1)) := Lib.hid (fun root' h1 h2 a ha => by
                    by_cases e : a < i
                    · exact h1 a e
                    · obtain rfl : a = i := by omega
                      exact h2)
                  have HND : Hid (∀ W, Below w.heap.size w W → NAt W b (o + i * 8) (x.nd.getD i z39) A3 c3) := Lib.hid hND
                  generalize x.nd.getD i z39 = y at *
                  obtain ⟨h0, h1, h2, h3, h4, h5, h6, h7, hC3⟩ := hND _ HWx.out
                  have HC3 := Lib.hid hC3
                  have HIn := Lib.hid hins
                  clear hk' hC3 hbs hND hins
                  obtain ⟨m, hm⟩ : ∃ m, y.f3.length = m := ⟨_, rfl⟩
                  go_upto_region 17 with fail
                  obtain ⟨W6, hW6⟩ : ∃ W, wr.alloc (Obj.cells #[Value.int IntKind.i64 y.f0, Value.int IntKind.i64 y.f1, Value.int IntKind.i64 y.f2, Value.slice A3 m c3, Value.string y.f4, Value.int IntKind.i64 y.f5, Value.int IntKind.i64 y.f6, Value.int IntKind.i64 y.f7] 39) = W := ⟨_, rfl⟩
                  rw [hW6]
                  obtain ⟨hbx, hb6⟩ := box_node (W' := W6) HC3.out (by rw [hm]; exact hW6)
                  have HG6 := Lib.hid (HGx.out.below hb6)
                  obtain ⟨G, hG⟩ : ∃ G, wr.heap.size = G := ⟨_, rfl⟩
                  rw [hG] at hbx ⊢
                  have HMm := Lib.hid hm
                  obtain ⟨s0, -, -, s3, -, -, -, -, -⟩ := hbx
                  rw [hm, Nat.zero_add] at s3
                  clear h0 h1 h2 h3 h4 h5 h6 h7 hW6 hb6 hG
                  by_cases h8 : y.f0 = 8
                  · have g8 : (y.f0 != 8) = false := by rw [h8]; rfl
                    have HOn := Lib.hid (HOi.out root HO.out (fun h => absurd h8 h))
                    clear h8
                    go_wp2_with fail
                    refine ⟨⟨i + 1, root, dp, by simp, HLt.out, HG6, HOn⟩, by have := HLt.out; simp [intOf]; omega⟩
                  · have g8 : (y.f0 != 8) = true := by simpa using h8
                    clear h8
                    go_upto_region 19 with fail
                    clear s0 s3 g8
                    go_loopw [13, 75] (fun _ v75 wy => ∃ (k : Nat) (root dp : Nat → Nat), v75 = .int .i64 k ∧ k ≤ m ∧ Hid (GSt W4 wy n Gb root dp) ∧ Hid (One x.nd root i) ∧ Hid (∀ j, j < k → root (y.f3.getD j 0).toNat = root i)) (fun _ v75 _ => m - (intOf v75).toNat)
                    case atStart => exact ⟨0, root, dp, rfl, Nat.zero_le _, HG6, HO, Lib.hid (fun j hj => absurd hj (Nat.not_lt_zero j))⟩
                    case round =>
                      obtain ⟨k2, root2, dp2, rfl, hk2, HGy, HO2, HK⟩ := hrel
                      by_cases hlk : k2 < m
                      · have HLk := Lib.hid hlk
                        have hkl : k2 < y.f3.length := by rw [HMm.out]; exact hlk
                        have hmem : y.f3.getD k2 0 ∈ y.f3 := by rw [List.getD_eq_getElem?_getD, List.getElem?_eq_getElem hkl]; exact List.getElem_mem hkl
                        obtain ⟨hv0, hv1⟩ := HIn.out _ hmem
                        obtain ⟨a, ha⟩ : ∃ a : Nat, y.f3.getD k2 0 = (a : Int) := ⟨(y.f3.getD k2 0).toNat, by omega⟩
                        obtain ⟨b3, o3, rfl, r3, -⟩ := ints_at (HND.out _ (HgB.out _ HGy.out.h).1).hC k2 hkl
                        rw [ha] at r3 hv1
                        rw [HN.out] at hv1
                        have han : a < n := by omega
                        have HAa := Lib.hid ha
                        have HAn := Lib.hid han
                        have hra := HGy.out.rl han
                        clear ha hmem hkl hv0 hv1
                        go_upto_region 22 with (first
                          | fail
                          | (go_at_call 36; refine (find_any n Gb root2 dp2 i _ HN4.out HLt.out HF1.out.here).mono ?_; rintro e w8 ⟨rfl, hG8⟩; have HF2 := Lib.hid (HF1.out.trans hG8); obtain ⟨u1, c1, c2⟩ := HF2.out.cell (HF2.out.rl HAn.out); clear hG8)
                          | (go_at_call 36; refine (find_any n Gb root2 dp2 a _ HN4.out HAn.out HGy.out.here).mono ?_; rintro e w7 ⟨rfl, hG7⟩; have HF1 := Lib.hid (HGy.out.trans hG7); clear hG7))
                        have HFn := Lib.hid (HF2.out.join HAn.out HLt.out)
                        have HKn : Hid (∀ j, j < k2 + 1 → joinR root2 a i (y.f3.getD j 0).toNat = joinR root2 a i i) := Lib.hid (fun j hj => by
                          by_cases e : j < k2
                          · exact joinR_eq (HK.out j e)
                          · obtain rfl : j = k2 := by omega
                            rw [HAa.out, Int.toNat_natCast]
                            exact joinR_new a i)
                        have HOn := Lib.hid (HO2.out.join a i)
                        clear c1 c2 r3 hra han
                        go_wp2_with fail
                        refine ⟨⟨k2 + 1, _, _, by simp, HLk.out, HFn, HOn, HKn⟩, by have := HLk.out; simp [intOf]; omega⟩
                      · obtain rfl : m = k2 := by omega
                        have HOn := Lib.hid (HOi.out root2 HO2.out (fun _ v hv => by
                          obtain ⟨j, hj, rfl⟩ := List.getElem_of_mem hv
                          have := HK.out j (by rw [← HMm.out]; exact hj)
                          rw [List.getD_eq_getElem?_getD (l := y.f3), List.getElem?_eq_getElem hj] at this
                          exact this))
                        clear hlk hk2
                        go_wp2_with fail
                        refine ⟨⟨i + 1, root2, dp2, by simp, HLt.out, HGy, HOn⟩, by have := HLt.out; simp [intOf]; omega⟩
                · obtain rfl : n = i := by omega
                  clear hlt hi
                  have hmm := @run_makeMap Tryd.prog
                  go_upto_region 26 with fail
                  clear hmm
                  obtain ⟨W7, hW7⟩ : ∃ W, (wr.alloc (Obj.map #[] 0)).alloc (Obj.cells #[Value.map (some wr.heap.size)] 64) = W := ⟨_, rfl⟩
                  rw [hW7]
                  obtain ⟨Mz, hMz⟩ : ∃ m, wr.heap.size = m := ⟨_, rfl⟩
                  have hzs : ZSt W4 W7 n Gb root dp Mz 0 [] (fun _ => none) (.slice none 0 0) := by
                    have hb1 : Below wr.heap.size wr (wr.alloc (Obj.map #[] 0)) := below_alloc (Below.refl _ _) _
                    have hz1 : (wr.alloc (Obj.map #[] 0)).heap.size = Mz + 1 := by rw [← hMz]; simp
                    have hb2 : Below (wr.alloc (Obj.map #[] 0)).heap.size (wr.alloc (Obj.map #[] 0)) W7 := by rw [← hW7]; exact below_alloc (Below.refl _ _) _
                    have hz2 : W7.heap.size = Mz + 2 := by rw [← hW7, ← hMz]; simp
                    refine ⟨(HGx.out.below hb1).below hb2, ?_, ?_, Kd.R_nil _ _ _ _ _, by have := HZ4.out; omega, by rw [← hMz]; exact HGx.out.h.size, by omega⟩
                    · rw [← hW7, ← hMz]; simp [go_sem]
                    · have := (MI.made wr).below hb2
                      rw [hMz] at this
                      exact this
                  have HZs := Lib.hid hzs
                  rw [hMz]
                  have HA0 := Lib.hid (AllI.start n root)
                  have HOne := HO
                  have HGt := HGx
                  clear hzs hW7 hMz HGx HO
                  go_upto_region 27 with fail
                  go_loopw [15, 16, 17, 92] (fun v15 _ _ v92 wx => ∃ (i : Nat) (all : List Nat) (f : Nat → Option Int), v92 = .int .i64 i ∧ i ≤ n ∧ Hid (AllI n root i all f) ∧ Hid (ZSt W4 wx n Gb root dp Mz i all f v15)) (fun _ _ _ v92 _ => n - (intOf v92).toNat)
                  case atStart => exact ⟨0, [], _, rfl, Nat.zero_le _, HA0, HZs⟩
                  case round =>
                    obtain ⟨i, all, f, rfl, hi, HA, HZx⟩ := hrel
                    by_cases hlt : i < n
                    · have HLt := Lib.hid hlt
                      go_upto_region 30 with (first
                        | fail
                        | (go_at_call 36; refine (find_any n Gb root dp i _ HN4.out HLt.out HZx.out.g.here).mono ?_; rintro e w8 ⟨rfl, hG8⟩; have HZ8 := Lib.hid (HZx.out.find hG8); clear hG8))
                      obtain ⟨r, hr⟩ : ∃ r, root i = r := ⟨_, rfl⟩
                      have hrn : r < n := by rw [← hr]; exact HGt.out.rl hlt
                      have HRr := Lib.hid hr
                      obtain ⟨cnt, hcnt⟩ : ∃ k, cntR root i r = k := ⟨_, rfl⟩
                      have hsz := HA.out.sz r
                      rw [hcnt] at hsz
                      have hcl : cnt ≤ i := by rw [← hcnt]; exact cntR_le root i r
                      have HCnt := Lib.hid hcnt
                      have HRn := Lib.hid hrn
                      have l1 := HZ8.out.m.look r (by omega)
                      rw [hsz] at l1
                      have c1 := HZ8.out.c
                      have hcI : (cnt : Int) ≤ 4096 := by omega
                      obtain ⟨W9, hrun, hz9⟩ := HZ8.out.put r (by omega) ((cnt : Int) + 1) (WalkArith.wf_i64 (by omega)) (by omega)
                      have HZ9 := Lib.hid hz9
                      have c2 := hz9.c
                      have l2 := hz9.m.look r (by omega)
                      rw [upd_same] at l2
                      have l2' : (Instr.lookup 64 (.map (some Mz)) (.int .i64 (r : Int)) false).run Tryd.prog W9 = .ok (.int .i64 ((cnt : Int) + 1)) W9 := l2
                      rw [hr]
                      clear hz9 l2 hsz hr hcnt
                      have hdv : all.length ≤ 1048576 := by have := HA.out.ln; omega
                      have HDv := Lib.hid hdv
                      clear hdv hcl
                      by_cases h0 : cnt = 0
                      · have g0 : ((cnt : Int) + 1 == 1) = true := by rw [h0]; rfl
                        have hfst := HA.out.first (by rw [HRr.out]; exact HRn.out) (by rw [HRr.out, HCnt.out]; exact h0)
                        rw [HRr.out, HCnt.out] at hfst
                        have HAn : Hid (AllI n root (i + 1) (all ++ [r]) (upd f r (some ((cnt : Int) + 1)))) := Lib.hid hfst
                        have hR := HZ9.out.r
                        obtain ⟨Av, cv, hvk⟩ := Kd.R_slice hR
                        rw [ints_len] at hvk
                        subst hvk
                        have HR := Lib.hid hR
                        clear hR hfst h0
                        go_upto_region 32 with fail
                        clear l1 l2' c1 c2 hrun g0
                        go_wp2_with (first | fail | ((with_reducible refine gate_builtin (b := .append) (xs := #[.tmp 106, .tmp 108]) rfl ?_); at_builtin; refine Kd.R_append (Kd.int .i64) (w0 := W9) (Mz + 2) rfl (.tmp 106) (.tmp 108) 23 3 (.int .i64 0) 8 rfl Tryd.underlying23 info3 rfl (by decide) (by decide) (.slice Av all.length cv) (ints all) (r : Int) [.int .i64 (r : Int)] (fun _ => True) (fun _ => False) rfl rfl ?aP (fun _ hk => hk.elim) ?aF ?aO ?aB ?aS ?aL ?_; (case aP => exact kI_mkM _ _ _ _); (case aF => exact fun b hb => trivial); (case aO => exact HR.out); (case aB => exact Below.refl _ _); (case aS => exact HZ9.out.z3); (case aL => rw [ints_len]; have := HDv.out; omega); intro v1 w9 ho hb hg hat; have HZ10 := Lib.hid (HZ9.out.app ho hg); clear ho hb hg hat))
                        refine ⟨⟨i + 1, _, _, by simp, HLt.out, HAn, HZ10⟩, by have := HLt.out; simp [intOf]; omega⟩
                      · have g0 : ((cnt : Int) + 1 == 1) = false := by rw [beq_eq_false_iff_ne]; omega
                        have hmre := HA.out.more (by rw [HRr.out, HCnt.out]; omega)
                        rw [HRr.out, HCnt.out] at hmre
                        have HAn : Hid (AllI n root (i + 1) all (upd f r (some ((cnt : Int) + 1)))) := Lib.hid hmre
                        clear hmre h0
                        go_wp2_with fail
                        refine ⟨⟨i + 1, _, _, by simp, HLt.out, HAn, HZ9⟩, by have := HLt.out; simp [intOf]; omega⟩
                    · obtain rfl : n = i := by omega
                      clear hlt hi
                      have hr0 : root 0 ∈ all := (HA.out.mem _).2 (cntR_pos.2 ⟨0, HN0.out, rfl⟩)
                      have hpos : 0 < (ints all).length := by rw [ints_len]; exact List.length_pos_iff.2 (List.ne_nil_of_mem hr0)
                      obtain ⟨g, cap, hA15, hg0, hg1, -⟩ := Kd.R_form HZx.out.r hpos
                      rw [ints_len] at hA15 hpos
                      subst hA15
                      have hal := HA.out.ln
                      obtain ⟨M, hM⟩ : ∃ m, all.length = m := ⟨_, rfl⟩
                      have hz1 := HZx.out.z1
                      have hz2 := HZx.out.z2
                      have HRw : Hid (Rw ⟨Mz + 1, Mz, n, f⟩ wr g all) := Lib.hid (rw_of_R HZx.out.r hg1 ⟨HZx.out.c, HZx.out.m⟩ (by show Mz + 1 ≠ g; omega) (by show Mz ≠ g; omega) (fun y hy => by have := HA.out.lt y hy; omega))
                      have hso := sort_any ⟨Mz + 1, Mz, n, f⟩ g g cap all wr HRw.out (Nat.le_refl _) (by omega)
                      rw [hM] at hso
                      have HSo := Lib.hid hso
                      have HGx := Lib.hid HZx.out.g
                      have HGg := Lib.hid (show Gb < g ∧ Mz + 1 < g ∧ Gb < W4.heap.size ∧ W4.heap.size ≤ Mz from by omega)
                      have HMl := Lib.hid hM
                      have hM1 : 1 ≤ M := by omega
                      have hM2 : M ≤ n := by omega
                      rw [hM]
                      clear hso hr0 hpos hg0 hg1 hal hz1 hz2 hM HZx HRw
                      go_upto_region 35 with (first
                        | fail
                        | (go_at_call 37; refine HSo.out.mono ?_; rintro e w8 ⟨srt, rfl, hlen, ⟨hperm, -⟩, hrw, hb8⟩; have HB8 := Lib.hid hb8; have HRw8 := Lib.hid hrw; have HPm := Lib.hid hperm; have HLn := Lib.hid hlen; clear hlen hperm hrw hb8))
                      have HG8 := Lib.hid (HGx.out.belowB HB8.out (by have := HGg.out; omega) (by have := HGg.out; omega))
                      obtain ⟨W9, m9, hb9, hz9, hu9⟩ := make23 n (by omega) w8
                      obtain ⟨Bo, hBo⟩ : ∃ m, w8.heap.size = m := ⟨_, rfl⟩
                      rw [hBo] at m9 hz9 hu9
                      obtain ⟨-, ⟨y0, y1, y2⟩, -⟩ := HgB.out _ HG8.out.h
                      have HGo := Lib.hid (show g < Bo by rw [← hBo]; exact HRw8.out.s)
                      go_upto_region 36 with fail
                      obtain ⟨N, hN⟩ : ∃ N : Nat, min k (M : Int) = (N : Int) := ⟨(min k (M : Int)).toNat, by have := HK.out; omega⟩
                      rw [hN]
                      have HNk := Lib.hid (show (N : Int) ≤ k ∧ N ≤ M ∧ 1 ≤ N ∧ N ≤ 64 ∧ N = min k.toNat M by have := HK.out; omega)
                      obtain ⟨W10, hW10⟩ : ∃ W, W9.alloc (Obj.cells #[Value.slice (some ⟨Bo, 0, none⟩) n n, Value.int IntKind.i64 N, Value.slice none 0 0] 46) = W := ⟨_, rfl⟩
                      rw [hW10]
                      have hb10 : Below W9.heap.size W9 W10 := by rw [← hW10]; exact below_alloc (Below.refl _ _) _
                      have hz10 : W10.heap.size = Bo + 2 := by rw [← hW10]; simp; omega
                      have hq10 : W10.heap[Bo + 1]? = some (.cells #[.slice (some ⟨Bo, 0, none⟩) n n, .int .i64 N, .slice none 0 0] 46) := by
                        have := blk_new W9 (Obj.cells #[Value.slice (some ⟨Bo, 0, none⟩) n n, Value.int IntKind.i64 N, Value.slice none 0 0] 46)
                        rw [hW10, hz9] at this
                        exact this
                      have hN64 : N ≤ 64 := HNk.out.2.2.2.1
                      obtain ⟨W11, m11, hb11, hz11, hu11⟩ := make23 N (by omega) W10
                      rw [hz10] at m11 hz11 hu11
                      have b1 := blk_cell hq10 1
                      have HQ11 := Lib.hid ((hb11.block (Bo + 1) (by omega)).trans hq10)
                      have hb8 : Below w8.heap.size w8 W11 := (hb9.trans (hb10.mono (by omega))).trans (hb11.mono (by omega))
                      have HO11 := Lib.hid ((hu9.below hb10 hu9.s).below hb11 (by have := hu9.s; omega))
                      have HL11 := Lib.hid hu11
                      have HG11 := Lib.hid (HG8.out.below hb8)
                      have HR11 := Lib.hid (HRw8.out.below hb8)
                      have HZ11 := Lib.hid (show W11.heap.size = Bo + 3 by omega)
                      have hmm := @run_makeMap Tryd.prog
                      clear hb8 hb9 hb10 hb11 hz9 hz10 hz11 hu9 hu11 hq10 hW10 hN m9 y0 y1 y2 hBo
                      go_upto_region 39 with fail
                      clear hmm b1 m11
                      obtain ⟨W12, hW12⟩ : ∃ W, W11.alloc (Obj.map #[] 0) = W := ⟨_, rfl⟩
                      rw [hW12, HZ11.out]
                      have hb12 : Below W11.heap.size W11 W12 := by rw [← hW12]; exact below_alloc (Below.refl _ _) _
                      have hz12 : W12.heap.size = Bo + 4 := by rw [← hW12]; simp; have := HZ11.out; omega
                      have HM12 : Hid (MI W12 (Bo + 3) 0 (fun _ => none)) := Lib.hid (by
                        have := MI.made W11
                        rw [hW12, HZ11.out] at this
                        exact this)
                      have HQ12 := Lib.hid ((hb12.block (Bo + 1) (by have := HZ11.out; omega)).trans HQ11.out)
                      have HO12 := Lib.hid (HO11.out.below hb12 HO11.out.s)
                      have HL12 := Lib.hid (HL11.out.below hb12 HL11.out.s)
                      have HG12 := Lib.hid (HG11.out.below hb12)
                      have HR12 := Lib.hid (HR11.out.below hb12)
                      have HZ12 := Lib.hid hz12
                      clear hb12 hz12 hW12 HQ11 HO11 HL11 HG11 HR11 HZ11 HRw8 HG8
                      have HB0 := Lib.hid (BinI.start N 4096)
                      go_loopw [22, 23, 24, 129] (fun _ _ _ v129 wx => ∃ (i : Nat) (load : Nat → Nat) (bin : Nat → Option Int), v129 = .int .i64 i ∧ i ≤ M ∧ Hid (BinI N 4096 (srt.take i) load bin) ∧ Hid (Cl eI wx (Bo + 2) N load) ∧ Hid (MI wx (Bo + 3) i bin) ∧ Hid (Rw ⟨Mz + 1, Mz, n, f⟩ wx g srt) ∧ Hid (Below (Bo + 2) W12 wx)) (fun _ _ _ v129 _ => M - (intOf v129).toNat)
                      case atStart => exact ⟨0, _, _, rfl, Nat.zero_le _, HB0, HL12, HM12, HR12, Lib.hid (Below.refl _ _)⟩
                      case round =>
                        obtain ⟨i, load, bin, rfl, hi, HBi, HLx, HMx, HRx, HBx⟩ := hrel
                        by_cases hlt : i < M
                        · have HLt := Lib.hid hlt
                          have his : i < srt.length := by rw [HLn.out, HMl.out]; exact hlt
                          have c1 := HRx.out.c i his
                          obtain ⟨r, hr⟩ : ∃ r, srt.getD i 0 = r := ⟨_, rfl⟩
                          rw [hr] at c1
                          have hrm : r ∈ all := HPm.out.mem_iff.1 (by rw [← hr, List.getD_eq_getElem?_getD, List.getElem?_eq_getElem his]; exact List.getElem_mem his)
                          have hrn := HA.out.lt r hrm
                          have hnt := not_take (HPm.out.nodup_iff.2 HA.out.nd) i his
                          rw [hr] at hnt
                          have htk := take_snoc srt i his
                          rw [hr] at htk
                          have hs1 := (HA.out.mem r).1 hrm
                          have hs2 := cntR_le root n r
                          have hs3 := HA.out.sz r
                          obtain ⟨s, hs⟩ : ∃ s, cntR root n r = s := ⟨_, rfl⟩
                          rw [hs] at hs1 hs2 hs3
                          have HSs := Lib.hid (show 0 < s ∧ s ≤ 4096 ∧ (f r).getD 0 = (s : Int) from ⟨hs1, Nat.le_trans hs2 HN4.out, hs3⟩)
                          have HTk := Lib.hid htk
                          have HNt := Lib.hid hnt
                          have HRn := Lib.hid hrn
                          clear his hr hrm hrn hnt htk hs1 hs2 hs3 hs
                          go_upto_region 43 with fail
                          obtain ⟨W13, hW13⟩ : ∃ W, wr = W := ⟨_, rfl⟩
                          rw [hW13] at HLx HMx HRx HBx ⊢
                          clear hW13 c1
                          have hN1 : 0 < N := HNk.out.2.2.1
                          go_loopw [23, 24, 135] (fun v23 _ v135 wy => ∃ (j kk : Nat), v135 = .int .i64 j ∧ v23 = .int .i64 kk ∧ j ≤ N ∧ kk < N ∧ Hid (∀ b, b < j → load kk ≤ load b) ∧ Hid (Below W13.heap.size W13 wy)) (fun _ _ v135 _ => N - (intOf v135).toNat)
                          case atStart => exact ⟨0, 0, rfl, rfl, Nat.zero_le _, hN1, Lib.hid (fun b hb => absurd hb (Nat.not_lt_zero b)), Lib.hid (Below.refl _ _)⟩
                          case round =>
                            obtain ⟨j, kk, rfl, rfl, hj, hkk, HMin, HBy⟩ := hrel
                            by_cases hlj : j < N
                            · have HLj := Lib.hid hlj
                              have HKk := Lib.hid hkk
                              have hLy := HLx.out.below HBy.out HLx.out.s
                              have c1 := hLy.c j hlj
                              have c2 := hLy.c kk hkk
                              obtain ⟨lj, hlj2⟩ : ∃ v, load j = v := ⟨_, rfl⟩
                              obtain ⟨lk, hlk2⟩ : ∃ v, load kk = v := ⟨_, rfl⟩
                              rw [hlj2] at c1
                              rw [hlk2] at c2
                              have HLj2 := Lib.hid hlj2
                              have HLk2 := Lib.hid hlk2
                              clear hLy hlj2 hlk2
                              go_upto_region 45 with fail
                              by_cases hll : lj < lk
                              · have g1 : decide ((lj : Int) < (lk : Int)) = true := decide_eq_true (by omega)
                                have HMn : Hid (∀ b, b < j + 1 → load j ≤ load b) := Lib.hid (fun b hb => by
                                  by_cases e : b < j
                                  · have := HMin.out b e; rw [HLk2.out] at this; rw [HLj2.out]; omega
                                  · obtain rfl : b = j := by omega
                                    exact Nat.le_refl _)
                                go_quiet (fail)
                                obtain ⟨W6, hW6⟩ : ∃ W, wr.drewN nq = W := ⟨_, rfl⟩
                                rw [hW6]
                                have HB6 : Hid (Below W13.heap.size W13 W6) := Lib.hid (by rw [← hW6]; exact pw_below_drewN HBy.out _)
                                clear hW6 c1 c2
                                go_wp2_with fail
                                refine ⟨⟨j + 1, j, by simp, rfl, HLj.out, HLj.out, HMn, HB6⟩, by have := HLj.out; simp [intOf]; omega⟩
                              · have g1 : decide ((lj : Int) < (lk : Int)) = false := decide_eq_false (by omega)
                                have HMn : Hid (∀ b, b < j + 1 → load kk ≤ load b) := Lib.hid (fun b hb => by
                                  by_cases e : b < j
                                  · exact HMin.out b e
                                  · obtain rfl : b = j := by omega
                                    rw [HLk2.out, HLj2.out]; omega)
                                go_quiet (fail)
                                obtain ⟨W6, hW6⟩ : ∃ W, wr.drewN nq = W := ⟨_, rfl⟩
                                rw [hW6]
                                have HB6 : Hid (Below W13.heap.size W13 W6) := Lib.hid (by rw [← hW6]; exact pw_below_drewN HBy.out _)
                                clear hW6 c1 c2
                                go_wp2_with fail
                                refine ⟨⟨j + 1, kk, by simp, rfl, HLj.out, HKk.out, HMn, HB6⟩, by have := HLj.out; simp [intOf]; omega⟩
                            · obtain rfl : N = j := by omega
                              have HKk := Lib.hid hkk
                              have HBst := Lib.hid (HBi.out.step HNt.out hkk HMin.out HSs.out.1 HSs.out.2.1)
                              have HLd := Lib.hid (HBi.out.b2 kk hkk)
                              have HLy := Lib.hid (HLx.out.below HBy.out HLx.out.s)
                              have HRy := Lib.hid (HRx.out.below HBy.out)
                              have HBz := Lib.hid (HBx.out.trans (HBy.out.mono (Nat.le_trans (Nat.le_of_lt HLx.out.s) (Nat.le_refl _))))
                              obtain ⟨W14, hrun, hm14, hg14⟩ := (HMx.out.below HBy.out).store r (by have := HRn.out; have := HN4.out; omega) (kk : Int) (wf_nat kk (by have := HNk.out; omega)) (by have := HN4.out; omega)
                              have HM14 := Lib.hid hm14
                              have HL14 := Lib.hid (HLy.out.move (hg14.block (Bo + 2) HLy.out.s (fun e => by injection e with e; omega)) hg14.size)
                              have HR14 := Lib.hid (HRy.out.other hg14 (fun e => by injection e with e; have := HGo.out; omega) (fun e => by injection e with e; have e' : Mz + 1 = Bo + 3 := e; have := HGo.out; have := HGg.out; omega) (fun e => by injection e with e; have e' : Mz = Bo + 3 := e; have := HGo.out; have := HGg.out; omega))
                              have HB14 := Lib.hid (HBz.out.grown hg14 (Nat.le_of_lt HLy.out.s) (fun q hq => by injection hq with hq; omega))
                              clear hlj hj hm14 hg14 HLx HMx HRx HBx
                              go_upto_region 49 with fail
                              clear hrun
                              have c1 := HL14.out.c kk hkk
                              have c2 := HL14.out.f kk hkk
                              have c3 := HR14.out.e.c
                              have l1 := HR14.out.e.m.look r (by have := HRn.out; have := HN4.out; omega)
                              have l2 := (HR14.out.e.m.below (Below.refl W14.heap.size W14).drew).look r (by have := HRn.out; have := HN4.out; omega)
                              rw [HSs.out.2.2] at l1 l2
                              obtain ⟨lk, hlk⟩ : ∃ v, load kk = v := ⟨_, rfl⟩
                              have hld := HLd.out
                              have htl : (srt.take i).length ≤ 4096 := by
                                have h1 : (srt.take i).length ≤ i := List.length_take_le _ _
                                have := HLt.out
                                have := HN4.out
                                omega
                              have hlkb : lk ≤ 16777216 := by
                                rw [← hlk]
                                exact Nat.le_trans hld (Nat.le_trans (Nat.mul_le_mul_right 4096 htl) (by decide))
                              have hsb : s ≤ 4096 := HSs.out.2.1
                              have hww : IntKind.i64.wrap ((lk : Int) + (s : Int)) = ((lk : Int) + (s : Int)) := IntWalk.i64_in _ (by omega)
                              rw [hlk] at c1 HBst
                              clear hld htl hlk
                              go_region
                              have HLn : Hid (Cl eI (W14.setCell ⟨Bo + 2, kk, none⟩ (.int .i64 ((lk : Int) + (s : Int)))) (Bo + 2) N (upd load kk (lk + s))) := Lib.hid (by
                                have h := HL14.out.set kk (lk + s)
                                have e : ((lk + s : Nat) : Int) = (lk : Int) + (s : Int) := by omega
                                have h' : Cl eI (W14.setCell ⟨Bo + 2, kk, none⟩ (.int .i64 ((lk + s : Nat) : Int))) (Bo + 2) N (upd load kk (lk + s)) := h
                                rw [e] at h'
                                exact h')
                              have HMn := Lib.hid (HM14.out.set (a := ⟨Bo + 2, kk, none⟩) (by show Bo + 3 ≠ Bo + 2; omega) (.int .i64 ((lk : Int) + (s : Int))))
                              have HRn2 := Lib.hid (HR14.out.far (b := Bo + 2) (k := kk) (v := .int .i64 ((lk : Int) + (s : Int))) (by have := HGo.out; omega) (by show Mz + 1 ≠ Bo + 2; have := HGo.out; have := HGg.out; omega) (by show Mz ≠ Bo + 2; have := HGo.out; have := HGg.out; omega))
                              have HBn := Lib.hid (below_set2 (j := kk) (v := .int .i64 ((lk : Int) + (s : Int))) (Nat.le_refl (Bo + 2)) HB14.out)
                              have HBs2 : Hid (BinI N 4096 (srt.take (i + 1)) (upd load kk (lk + s)) (upd bin r (some (kk : Int)))) := Lib.hid (by rw [HTk.out]; exact HBst.out)
                              clear c1 c2 c3 l1 l2 hww hlkb hsb
                              go_wp2_with fail
                              refine ⟨⟨i + 1, _, _, by simp, HLt.out, HBs2, Lib.hid (HLn.out.below (Below.refl _ _).drew HLn.out.s), Lib.hid (HMn.out.below (Below.refl _ _).drew), Lib.hid (HRn2.out.below (Below.refl _ _).drew), Lib.hid HBn.out.drew⟩, by have := HLt.out; simp [intOf]; omega⟩
                        · obtain rfl : M = i := by omega
                          clear hlt hi
                          have HBi2 : Hid (BinI N 4096 srt load bin) := Lib.hid (by have h := HBi.out; rw [List.take_of_length_le (by rw [HLn.out, HMl.out]; exact Nat.le_refl _)] at h; exact h)
                          have HQx := Lib.hid ((HBx.out.block (Bo + 1) (by omega)).trans HQ12.out)
                          have HOx : Hid (Cl (Value.int .i64) wr Bo n (fun j => if j < 0 then (bin (root j)).getD 0 else 0)) := Lib.hid ((HO12.out.below HBx.out (by omega)).toInt.size fun j _ => (if_neg (Nat.not_lt_zero j)).symm)
                          have HGx2 := Lib.hid (HG12.out.belowB HBx.out (by have := HGo.out; have := HGg.out; omega) (by have := HGo.out; have := HGg.out; omega))
                          have HMx2 := HMx
                          have c0 := blk_cell HQx.out 0
                          go_upto_region 52 with fail
                          clear c0
                          go_loopw [25, 165] (fun _ v165 wx => ∃ i : Nat, v165 = .int .i64 i ∧ i ≤ n ∧ Hid (Cl (Value.int .i64) wx Bo n (fun j => if j < i then (bin (root j)).getD 0 else 0)) ∧ Hid (GSt W4 wx n Gb root dp) ∧ Hid (MI wx (Bo + 3) M bin) ∧ Hid (wx.heap[Bo + 1]? = some (.cells #[.slice (some ⟨Bo, 0, none⟩) n n, .int .i64 N, .slice none 0 0] 46))) (fun _ v165 _ => n - (intOf v165).toNat)
                          case atStart => exact ⟨0, rfl, Nat.zero_le _, HOx, HGx2, HMx2, HQx⟩
                          case round =>
                            obtain ⟨i, rfl, hi, HOy, HGy, HMy2, HQy⟩ := hrel
                            by_cases hlt : i < n
                            · have HLt := Lib.hid hlt
                              have c0 := blk_cell HQy.out 0
                              have c1 := HOy.out.c i hlt
                              have c2 := HOy.out.f i hlt
                              have hGd := HGy.out.below (Below.refl wr.heap.size wr).drew
                              have hMd := HMy2.out.below (Below.refl wr.heap.size wr).drew
                              have hOd := HOy.out.below (Below.refl wr.heap.size wr).drew HOy.out.s
                              have hQd : wr.drew.heap[Bo + 1]? = some (.cells #[.slice (some ⟨Bo, 0, none⟩) n n, .int .i64 N, .slice none 0 0] 46) := HQy.out
                              have HGd := Lib.hid hGd
                              have HMd := Lib.hid hMd
                              have HOd := Lib.hid hOd
                              have HQd := Lib.hid hQd
                              clear hGd hMd hOd hQd
                              go_upto_region 54 with fail
                              go_region_with (go_at_call 36; refine (find_any n Gb root dp i _ HN4.out HLt.out HGd.out.here).mono ?_; rintro e w9 ⟨rfl, hG9⟩; (have hQ9 := (hG9.h.block (Bo + 1) (blk_lt HQd.out) (fun e => by injection e with e; have := HGo.out; have := HGg.out; omega)).trans HQd.out); (have hO9 := HOd.out.move (hG9.h.block Bo HOd.out.s (fun e => by injection e with e; have := HGo.out; have := HGg.out; omega)) hG9.h.size); have hM9 := HMd.out.kept hG9.h (fun e => by injection e with e; have := HGo.out; have := HGg.out; omega); have HG9 := Lib.hid (HGd.out.trans hG9); have c9 := blk_cell hQ9 0; have o9 := hO9.c i HLt.out; have q9 := hO9.f i HLt.out; have l9 := hM9.look (root i) (by have := HG9.out.rl HLt.out; have := HN4.out; omega); have HQ9 := Lib.hid hQ9; have HO9 := Lib.hid hO9; have HM9 := Lib.hid hM9; clear hG9 hQ9 hO9 hM9)
                              all_goals
                                have HOn : Hid (Cl (Value.int .i64) (w9.setCell ⟨Bo, i, none⟩ (.int .i64 ((bin (root i)).getD 0))) Bo n (fun j => if j < i + 1 then (bin (root j)).getD 0 else 0)) := Lib.hid ((HO9.out.set i ((bin (root i)).getD 0)).size (fun j _ => by
                                  by_cases e : j = i
                                  · subst e; rw [upd_same, if_pos (Nat.lt_succ_self j)]
                                  · rw [upd_ne _ _ e]
                                    by_cases e2 : j < i
                                    · rw [if_pos e2, if_pos (by omega)]
                                    · rw [if_neg e2, if_neg (by omega)]))
                                have HGn : Hid (GSt W4 (w9.setCell ⟨Bo, i, none⟩ (.int .i64 ((bin (root i)).getD 0))) n Gb root dp) := Lib.hid (HG9.out.other (row := some Bo) ⟨rfl, rfl, rfl, by simp, fun q hq hne => Below.heap_setCell w9 _ _ q (fun e => hne (by rw [e]))⟩ (fun e => by injection e with e; have := HGo.out; have := HGg.out; omega) (fun j hj => by injection hj with hj; have := HGo.out; have := HGg.out; omega))
                                have HMn := Lib.hid (HM9.out.set (a := ⟨Bo, i, none⟩) (by show Bo + 3 ≠ Bo; omega) (.int .i64 ((bin (root i)).getD 0)))
                                have HQn := Lib.hid ((Below.heap_setCell w9 ⟨Bo, i, none⟩ (.int .i64 ((bin (root i)).getD 0)) (Bo + 1) (by show Bo + 1 ≠ Bo; omega)).trans HQ9.out)
                                clear c0 c1 c2 c9 o9 q9 l9
                                go_wp2_with fail
                                refine ⟨⟨i + 1, by simp, HLt.out, HOn, HGn, HMn, HQn⟩, by have := HLt.out; simp [intOf]; omega⟩
                            · obtain rfl : n = i := by omega
                              clear hlt hi
                              obtain ⟨ofL, hofL⟩ : ∃ l, (List.range n).map (fun j => (bin (root j)).getD 0) = l := ⟨_, rfl⟩
                              have HOf : Hid (Cl (Value.int .i64) wr Bo n (fun j => ofL.getD j 0)) := Lib.hid (HOy.out.size fun j hj => by rw [if_pos hj, ← hofL, range_getD n _ j hj])
                              obtain ⟨hW, ⟨y0, y1, y2⟩, hQb⟩ := HgB.out _ HGy.out.h
                              have HW := Lib.hid hW
                              have HQb := Lib.hid hQb
                              have c0 := blk_cell HQy.out 0
                              have c1 := blk_cell HQy.out 1
                              have c2 := blk_cell HQy.out 2
                              have hmay : PMay x.nd ⟨ofL, N, ahL x.nd ofL N⟩ := by
                                obtain ⟨gg, hU, -⟩ := HGy.out.g
                                have hn := HN.out
                                have h := run_may (nd := x.nd) (root := root) (g := gg) (d := dp) (all := all) (srt := srt) (f := f) (bin := bin) (load := load) (N := N) (M := 4096) (k := k.toNat) (by rw [hn]; exact hU) (fun i hi h8 v hv => ⟨by have := HMy.out.ins i hi v hv; omega, HOne.out i (by omega) h8 v hv⟩) (by rw [hn]; exact HA.out) HPm.out (by rw [HMl.out]; exact HNk.out.2.2.2.2) (by have := HK.out; omega) (by have := HK.out; omega) (by rw [hn]; exact HN0.out) HBi2.out
                                rw [hn, hofL] at h
                                exact h
                              have HMay := Lib.hid hmay
                              have hlo := hmay.lo
                              have hof := hmay.ofl
                              have hC : Kd.C (Kd.int .i64) wr (some ⟨Bo, 0, none⟩) n ofL := by
                                have h := C_of_cl (HOy.out.size (g := fun j => (bin (root j)).getD 0) fun j hj => if_pos hj) (by have := HN4.out; omega)
                                rw [hofL] at h
                                exact h
                              have hah : Calls Tryd.prog 40 #[.agg #[.slice A n c, .slice B x.nt.length d, .int .i64 x.pt], .agg #[.slice (some ⟨Bo, 0, none⟩) n n, .int .i64 (N : Int), .slice none 0 0]] wr (AheadP wr x.nd ofL N) := by
                                have hlo' : ofL.length = n := hlo.trans HN.out
                                have h := ahead2_any x A c B d ⟨ofL, N, []⟩ (some ⟨Bo, 0, none⟩) n none 0 N wr (HI.out.below HW.out) ⟨by rw [hlo']; exact hC, Kd.C_nil _ _, by rw [hlo']; exact Nat.le_refl _, Nat.le_refl _⟩ HMy.out hlo rfl HNk.out.2.2.2.1 hof
                                dsimp only [nlV, pV] at h
                                rw [HN.out, hlo'] at h
                                exact h
                              have HAh := Lib.hid hah
                              clear hmay hlo hof hC hah hofL hW hQb
                              go_upto_region 57 with (first
                                | fail
                                | (go_at_call 40; refine HAh.out.mono ?_; rintro e w15 ⟨D, hD, rfl, hAM, hDN, hb15⟩; have HD := Lib.hid hD; have HAM := Lib.hid hAM; have HB15 := Lib.hid hb15; have HQ15 := Lib.hid ((hb15.block (Bo + 1) (blk_lt HQy.out)).trans HQy.out); have f2 := blk_frozen HQ15.out 2; have e2 := blk_cell HQ15.out 2; clear hD hAM hDN hb15))
                              have hPB : P + 1 < Bo ∧ Bo + 1 < wr.heap.size := ⟨by have := HZ4.out; have := HGg.out; have := HGo.out; omega, blk_lt HQy.out⟩
                              have HPB := Lib.hid hPB
                              obtain ⟨W16, hW16⟩ : ∃ W, w15.setCell ⟨Bo + 1, 2, none⟩ (.slice (some ⟨D, 0, none⟩) N N) = W := ⟨_, rfl⟩
                              rw [hW16]
                              have hQ16 : W16.heap[Bo + 1]? = some (.cells #[.slice (some ⟨Bo, 0, none⟩) n n, .int .i64 N, .slice (some ⟨D, 0, none⟩) N N] 46) := by
                                rw [← hW16]
                                exact blk_put HQ15.out 2 _ rfl
                              have hR16 : QBx W16 (P + 1) := ⟨by
                                rw [← hW16]
                                exact (Below.heap_setCell w15 _ _ _ (by show P + 1 ≠ Bo + 1; omega)).trans ((HB15.out.block (P + 1) (by omega)).trans HQb.out.blk)⟩
                              have HO16 : Hid (Cl (Value.int .i64) W16 Bo n (fun j => ofL.getD j 0)) := Lib.hid (by
                                rw [← hW16]
                                exact (HOf.out.below HB15.out HOf.out.s).far (by omega) _)
                              have HA16 : Hid (AMem W16 D N (fun i j => ahS x.nd ofL i j x.nd.length)) := Lib.hid (by
                                rw [← hW16]
                                exact HAM.out.far (by have := HD.out; omega))
                              have HB16 : Hid (Below P w W16) := Lib.hid (by
                                rw [← hW16]
                                have h := HW.out.trans (HB15.out.mono HW.out.size)
                                rw [HPs.out] at h
                                exact below_set2 (by omega) h)
                              have q0 := blk_cell hQ16 0
                              have q1 := blk_cell hQ16 1
                              have q2 := blk_cell hQ16 2
                              have b0 := blk_cell hR16.blk 0
                              have b1 := blk_cell hR16.blk 1
                              have b2 := blk_cell hR16.blk 2
                              have g0 := blk_frozen hR16.blk 0
                              have g1 := blk_frozen hR16.blk 1
                              have g2 := blk_frozen hR16.blk 2
                              have d1 : ¬ P + 1 = Bo + 1 := by omega
                              have d2 : ¬ Bo + 1 = P + 1 := by omega
                              clear hW16 hQ16 hR16 hPB c0 c1 c2 f2 e2 y0 y1 y2
                              go_wp2_with fail
                              refine bodyPost_ret (v := .tuple #[.agg #[.slice (some ⟨Bo, 0, none⟩) n n, .int .i64 N, .slice (some ⟨D, 0, none⟩) N N], .int .i64 0]) (by simp [results, Tryd.results21, go_sem, b0, b1, b2]) rfl ⟨?_, Or.inr ⟨HK.out, Or.inr ⟨HM.out, out, done, cnt, HRes.out, Or.inr (Or.inr ⟨HEq.out, by rw [HN.out]; exact HN0.out, ⟨ofL, N, ahL x.nd ofL N⟩, Bo, D, N, by rw [HN.out], ?_⟩)⟩⟩⟩
                              · rw [HPs.out]
                                exact below_set2 (by omega) (below_set2 (by omega) (below_set2 (by omega) HB16.out))
                              · refine ⟨HMay.out, rfl, HNk.out.1, by rw [HN.out]; have := HNk.out; omega, ?_, ?_, by rw [HPs.out]; have := HPB.out; omega, by have := HD.out; have := HPB.out; omega⟩
                                · rw [HN.out]
                                  exact ((HO16.out.far (by have := HPB.out; omega) _).far (by have := HPB.out; omega) _).far (by have := HPB.out; omega) _
                                · refine (((HA16.out.far ?_).far ?_).far ?_).size (fun i j hi hj => (ahL_at x.nd ofL N i j hi hj).symm) <;> (have := HPB.out; have := HD.out; omega)
  · have HK := Lib.hid hk
    have gk : (decide (k < 1) || decide (k > 64)) = true := by
      rw [Bool.or_eq_true, decide_eq_true_eq, decide_eq_true_eq]; omega
    have b0 := blk_cell HR1.out.blk 0
    have b1 := blk_cell HR1.out.blk 1
    have b2 := blk_cell HR1.out.blk 2
    have g0 := blk_frozen HR1.out.blk 0
    have g1 := blk_frozen HR1.out.blk 1
    have g2 := blk_frozen HR1.out.blk 2
    rcases (show k < 1 ∨ (¬ k < 1 ∧ k > 64) by omega) with h1 | ⟨h1, h2⟩
    · have gk1 : decide (k < 1) = true := decide_eq_true h1
      clear hk h1
      go_enter Tryd.func21, Tryd.ntmps21
      go_upto_region 1 with fail
      try rw [HZ0.out]
      go_wp2_with fail
      refine bodyPost_ret (v := .tuple #[noParts, .int .i64 1]) (by simp [results, Tryd.results21, go_sem, b0, b1, b2]) rfl ⟨?_, Or.inl ⟨HK.out, rfl⟩⟩
      exact below_set2 (by rw [HPs.out]; omega) (below_set2 (by rw [HPs.out]; omega) (below_set2 (by rw [HPs.out]; omega) HB1.out))
    · have gk1 : decide (k < 1) = false := decide_eq_false h1
      have gk2 : decide (k > 64) = true := decide_eq_true h2
      have gk3 : decide (64 < k) = true := decide_eq_true h2
      clear hk h1 h2
      go_enter Tryd.func21, Tryd.ntmps21
      go_upto_region 1 with fail
      try rw [HZ0.out]
      go_wp2_with fail
      refine bodyPost_ret (v := .tuple #[noParts, .int .i64 1]) (by simp [results, Tryd.results21, go_sem, b0, b1, b2]) rfl ⟨?_, Or.inl ⟨HK.out, rfl⟩⟩
      exact below_set2 (by rw [HPs.out]; omega) (below_set2 (by rw [HPs.out]; omega) (below_set2 (by rw [HPs.out]; omega) HB1.out))
end Go.Proofs.YtonnmkhmhndalaaDoor
end
section
namespace Go.Proofs.YtonnmkhmhndalaaDoor
set_option linter.unusedVariables false
set_option linter.unusedSimpArgs false
open Go.RowKit
theorem PRunP.ok {w w' : World} {x : NL} {k : Int} {e : Ending} (h : PRunP w x k e w') (hk : 1 ≤ k ∧ k ≤ 64) (hm : mayL x = true) (hl : ∀ out done cnt, LRes x.nd.length (hs x.nd) out done cnt → cnt = x.nd.length) (hn : 0 < x.nd.length) :
    Below w.heap.size w w' ∧ ∃ (p : PV) (Bo D N : Nat), e = .returned (.tuple #[.agg #[.slice (some ⟨Bo, 0, none⟩) x.nd.length x.nd.length, .int .i64 N, .slice (some ⟨D, 0, none⟩) N N], .int .i64 0]) ∧ PMem w w' x k p Bo D N := by
  obtain ⟨hb, h⟩ := h
  refine ⟨hb, ?_⟩
  rcases h with ⟨h, -⟩ | ⟨-, h⟩
  · exact absurd hk h
  · rcases h with ⟨h, -⟩ | ⟨-, out, done, cnt, hres, h⟩
    · rw [hm] at h; cases h
    · have := hl out done cnt hres
      rcases h with ⟨h, -⟩ | ⟨-, h, -⟩ | ⟨-, -, h⟩
      · omega
      · omega
      · exact h
theorem PRunP.arg {w w' : World} {x : NL} {k : Int} {e : Ending} (h : PRunP w x k e w') (hk : ¬ (1 ≤ k ∧ k ≤ 64)) : e = .returned (.tuple #[noParts, .int .i64 1]) ∧ Below w.heap.size w w' := by
  obtain ⟨hb, h⟩ := h
  rcases h with ⟨-, h⟩ | ⟨h, -⟩
  · exact ⟨h, hb⟩
  · exact absurd h hk
end Go.Proofs.YtonnmkhmhndalaaDoor
end
section
namespace Go.Proofs.YtonnmkhmhndalaaDoor
set_option linter.unusedVariables false
set_option linter.unusedSimpArgs false
open Go.RowKit Go.Proofs.YtonnmkhmhndalaaDoorW.PrintWords Go.Proofs.YtonnmkhmhndalaaDoorW.PrintLast Go.Proofs.YtonnmkhmhndalaaDoorW.PrintMore
theorem nodes_C {W : World} {b : Nat} {l : List S39} (hl : l.length ≤ 9223372036854775807) (h : ∀ j, j < l.length → ∃ A3 c3, NAt W b (j * 8) (l.getD j z39) A3 c3 ∧ (l.getD j z39).f3.length ≤ c3) : Kd.C k39 W (some ⟨b, 0, none⟩) l.length l := by
  refine ⟨rfl, hl, fun _ => ⟨_, rfl, fun j p hj => ?_⟩⟩
  have hlt : j < l.length := by
    rcases Nat.lt_or_ge j l.length with h1 | h1
    · exact h1
    · rw [List.getElem?_eq_none h1] at hj; cases hj
  have hp : l.getD j z39 = p := by rw [List.getD_eq_getElem?_getD, hj]; rfl
  obtain ⟨A3, c3, ⟨h0, h1, h2, h3, h4, h5, h6, h7, hC⟩, hc⟩ := h j hlt
  rw [hp] at h0 h1 h2 h3 h4 h5 h6 h7 hC hc
  refine ⟨_, rfl, k39_mk W p hc hC, fun i u hu => ?_⟩
  have ea : ∀ k, (⟨b, 0, none⟩ : Addr).add k = ⟨b, k, none⟩ := fun k => by rw [add_plain, Nat.zero_add]
  rw [ea]
  match i, hu with
  | 0, hu => injection hu with hu; subst hu; exact h0
  | 1, hu => injection hu with hu; subst hu; exact h1
  | 2, hu => injection hu with hu; subst hu; exact h2
  | 3, hu => injection hu with hu; subst hu; exact h3
  | 4, hu => injection hu with hu; subst hu; exact h4
  | 5, hu => injection hu with hu; subst hu; exact h5
  | 6, hu => injection hu with hu; subst hu; exact h6
  | 7, hu => injection hu with hu; subst hu; exact h7
theorem ints_C {W : World} {b : Nat} {l : List Int} (hl : l.length ≤ 9223372036854775807) (h : ∀ j, j < l.length → W.cell? ⟨b, j, none⟩ = some (.int .i64 (l.getD j 0))) : Kd.C (Kd.int .i64) W (some ⟨b, 0, none⟩) l.length l := by
  refine ⟨rfl, hl, fun _ => ⟨_, rfl, fun j p hj => ?_⟩⟩
  have hlt : j < l.length := by
    rcases Nat.lt_or_ge j l.length with h1 | h1
    · exact h1
    · rw [List.getElem?_eq_none h1] at hj; cases hj
  have hp : l.getD j 0 = p := by rw [List.getD_eq_getElem?_getD, hj]; rfl
  have h0 := h j hlt
  rw [hp] at h0
  refine ⟨_, rfl, rfl, fun i u hu => ?_⟩
  have ea : ∀ k, (⟨b, 0, none⟩ : Addr).add k = ⟨b, k, none⟩ := fun k => by rw [add_plain, Nat.zero_add]
  rw [ea]
  match i, hu with
  | 0, hu => injection hu with hu; subst hu; show W.cell? ⟨b, j * 1 + 0, none⟩ = _; rw [Nat.mul_one, Nat.add_zero]; exact h0
theorem rows_C {W : World} {b : Nat} {l : List (List Int)} (hl : l.length ≤ 9223372036854775807) (h : ∀ j, j < l.length → ∃ A0 c0, W.cell? ⟨b, j, none⟩ = some (.slice A0 (l.getD j []).length c0) ∧ (l.getD j []).length ≤ c0 ∧ Kd.C (Kd.int .i64) W A0 (l.getD j []).length (l.getD j [])) : Kd.C (Kd.slice 3 (Kd.int .i64)) W (some ⟨b, 0, none⟩) l.length l := by
  refine ⟨rfl, hl, fun _ => ⟨_, rfl, fun j p hj => ?_⟩⟩
  have hlt : j < l.length := by
    rcases Nat.lt_or_ge j l.length with h1 | h1
    · exact h1
    · rw [List.getElem?_eq_none h1] at hj; cases hj
  have hp : l.getD j [] = p := by rw [List.getD_eq_getElem?_getD, hj]; rfl
  obtain ⟨A0, c0, h0, h1, hC⟩ := h j hlt
  rw [hp] at h0 h1 hC
  refine ⟨_, rfl, ⟨A0, c0, rfl, h1, hC⟩, fun i u hu => ?_⟩
  have ea : ∀ k, (⟨b, 0, none⟩ : Addr).add k = ⟨b, k, none⟩ := fun k => by rw [add_plain, Nat.zero_add]
  rw [ea]
  match i, hu with
  | 0, hu => injection hu with hu; subst hu; show W.cell? ⟨b, j * 1 + 0, none⟩ = _; rw [Nat.mul_one, Nat.add_zero]; exact h0
end Go.Proofs.YtonnmkhmhndalaaDoor
end
section
namespace Go.Proofs.YtonnmkhmhndalaaDoor
set_option linter.unusedVariables false
set_option linter.unusedSimpArgs false
open Go.RowKit Go.Proofs.YtonnmkhmhndalaaDoorW.PrintWords Go.Proofs.YtonnmkhmhndalaaDoorW.PrintLast Go.Proofs.YtonnmkhmhndalaaDoorW.PrintMore
theorem map_getD (l : List Int) (n : Nat) (h : l.length = n) : (List.range n).map (fun i => l.getD i 0) = l := by
  apply eq_of_getD
  · rw [List.length_map, List.length_range, h]
  · intro j hj
    rw [List.length_map, List.length_range] at hj
    rw [range_getD n _ j hj]
theorem map_rows (l : List (List Int)) (N : Nat) (h : l.length = N) (hr : ∀ i, i < N → (l.getD i []).length = N) : (List.range N).map (fun i => (List.range N).map (fun j => (l.getD i []).getD j 0)) = l := by
  apply eq_of_rows
  · rw [List.length_map, List.length_range, h]
  · intro j hj
    rw [List.length_map, List.length_range] at hj
    rw [List.getD_eq_getElem?_getD, List.getElem?_map, List.getElem?_range hj]
    exact map_getD _ N (hr j hj)
theorem cl_in {W : World} {Bo D n N : Nat} {p : PV} (ho : Cl (Value.int .i64) W Bo n (fun i => p.of.getD i 0)) (ha : AMem W D N (fun i j => (p.ah.getD i []).getD j 0)) (h1 : p.of.length = n) (h2 : p.ah.length = N) (h3 : ∀ i, i < N → (p.ah.getD i []).length = N) (hn : n ≤ 1000000) (hN : N ≤ 64) :
    PIn W p (some ⟨Bo, 0, none⟩) n (some ⟨D, 0, none⟩) N := by
  refine ⟨?_, ?_, by rw [h1]; exact Nat.le_refl _, by rw [h2]; exact Nat.le_refl _⟩
  · have h := C_of_cl ho (by omega)
    rw [map_getD _ n h1] at h
    rw [h1]; exact h
  · have h := C_of_amem ha (by omega)
    rw [map_rows _ N h2 h3] at h
    rw [h2]; exact h
theorem PMay.an {nd : List S39} {p : PV} (h : PMay nd p) {N : Nat} (hN : p.n = (N : Int)) : p.ah.length = N ∧ ∀ i, i < N → (p.ah.getD i []).length = N := by
  have h1 := h.la
  exact ⟨by omega, fun i hi => by have := h.rl i (by omega); omega⟩
theorem PMem.inn {w w' : World} {x : NL} {k : Int} {p : PV} {Bo D N : Nat} (h : PMem w w' x k p Bo D N) (hn : x.nd.length ≤ 1000000) : PIn w' p (some ⟨Bo, 0, none⟩) x.nd.length (some ⟨D, 0, none⟩) N := by
  obtain ⟨h1, h2⟩ := h.may.an h.n
  have h3 := h.may.n2
  have h4 := h.n
  exact cl_in h.of h.ah h.may.lo h1 h2 hn (by omega)
theorem PMem.val {w w' : World} {x : NL} {k : Int} {p : PV} {Bo D N : Nat} (h : PMem w w' x k p Bo D N) : (Value.agg #[.slice (some ⟨Bo, 0, none⟩) x.nd.length x.nd.length, .int .i64 N, .slice (some ⟨D, 0, none⟩) N N] : Value) = pV p (some ⟨Bo, 0, none⟩) x.nd.length (some ⟨D, 0, none⟩) N := by
  obtain ⟨h1, h2⟩ := h.may.an h.n
  have h3 := h.may.lo
  dsimp only [pV]
  rw [h1, h3, h.n]
def dlN (k t : Int) : S39 := ⟨8, 0, 1, [k], ⟨#[]⟩, 0, 0, t⟩
def inN2 : S39 := ⟨2, 0, 1, [], ⟨#[]⟩, 0, 0, 0⟩
def xl3 : NL := ⟨[inN2, dlN 0 2], [0, 1], 2⟩
def q3 : PV := ⟨[0, 1], 2, [[0, 2], [0, 0]]⟩
theorem may3 : mayL xl3 = true := by decide +kernel
theorem q3_may : PMay xl3.nd q3 := by
  rw [may_check]
  refine ⟨⟨by decide, by decide, rfl, rfl⟩, fun i hi => ?_, fun i hi h8 v hv => ?_, fun b hb => ?_, by decide +kernel⟩
  · have hi' : i < 2 := hi
    have : i = 0 ∨ i = 1 := by omega
    rcases this with rfl | rfl <;> decide
  · have hi' : i < 2 := hi
    have : i = 0 ∨ i = 1 := by omega
    rcases this with rfl | rfl
    · cases hv
    · exact absurd rfl h8
  · have hb' : (b : Int) < 2 := hb
    have : b = 0 ∨ b = 1 := by omega
    rcases this with rfl | rfl
    · exact ⟨0, by decide, rfl⟩
    · exact ⟨1, by decide, rfl⟩
theorem free_low {n : Nat} {hs : Nat → List Nat} (key : ∀ u, u < n → ∀ x ∈ hs u, x < u) {out : Nat → Nat} {done : Nat → Bool} {cnt : Nat} (hr : LRes n hs out done cnt) : cnt = n := by
  rcases Nat.lt_or_ge cnt n with h1 | h1
  · exfalso
    refine hr.nofix (fun u hu x hx => by have := key u hu x hx; omega) h1 (fun u => u) (fun u hu x hx => by have := key u hu x hx; show x + 1 ≤ u; omega)
  · have := hr.le; omega
theorem low3 : ∀ u, u < xl3.nd.length → ∀ x ∈ hs xl3.nd u, x < u := by
  intro u hu x hx
  have hu' : u < 2 := hu
  have : u = 0 ∨ u = 1 := by omega
  rcases this with rfl | rfl <;> cases hx
set_option maxRecDepth 100000 in
theorem net3 {w W : World}
    (h : (((w.alloc (.cells #[.int .i64 0] 3)).alloc (.cells #[.int .i64 2, .int .i64 0, .int .i64 1, .slice none 0 0, .string ⟨#[]⟩, .int .i64 0, .int .i64 0, .int .i64 0, .int .i64 8, .int .i64 0, .int .i64 1, .slice (some ⟨w.heap.size, 0, none⟩) 1 1, .string ⟨#[]⟩, .int .i64 0, .int .i64 0, .int .i64 2] 39)).alloc (.cells #[.int .i64 0, .int .i64 1] 3)).alloc (.cells #[.slice (some ⟨w.heap.size + 1, 0, none⟩) 2 2, .slice (some ⟨w.heap.size + 2, 0, none⟩) 2 2, .int .i64 2] 25) = W) :
    NIn W xl3 (some ⟨w.heap.size + 1, 0, none⟩) 2 (some ⟨w.heap.size + 2, 0, none⟩) 2 ∧ LBx W (w.heap.size + 3) 2 2 2 (some ⟨w.heap.size + 1, 0, none⟩) 2 (some ⟨w.heap.size + 2, 0, none⟩) 2 ∧ Below w.heap.size w W ∧ W.heap.size = w.heap.size + 4 := by
  have hb : Below w.heap.size w W := by
    rw [← h]
    exact (((below_alloc (Below.refl _ _) _).alloc (by simp) _).alloc (by simp; omega) _).alloc (by simp; omega) _
  have hC0 : Kd.C (Kd.int .i64) W (some ⟨w.heap.size, 0, none⟩) 1 [0] := ints_C (l := [0]) (by decide) (fun j hj => by
    have : j = 0 := by have : j < 1 := hj; omega
    subst this
    rw [← h]; simp [go_sem])
  refine ⟨⟨nodes_C (by decide) (fun j hj => ?_), ints_C (by decide) (fun j hj => ?_), by decide, by decide, ?_, ?_, by decide⟩, ⟨by rw [← h]; simp [go_sem], by rw [← h]; simp [go_sem], by rw [← h]; simp [go_sem]⟩, hb, by rw [← h]; simp⟩
  · have hj' : j < 2 := hj
    have : j = 0 ∨ j = 1 := by omega
    rcases this with rfl | rfl
    · refine ⟨none, 0, ⟨?_, ?_, ?_, ?_, ?_, ?_, ?_, ?_, Kd.C_nil _ _⟩, Nat.le_refl _⟩ <;> (rw [← h]; simp [go_sem, xl3, dlN, inN2])
    · refine ⟨some ⟨w.heap.size, 0, none⟩, 1, ⟨?_, ?_, ?_, ?_, ?_, ?_, ?_, ?_, hC0⟩, Nat.le_refl _⟩ <;> (rw [← h]; simp [go_sem, xl3, dlN, inN2])
  · have hj' : j < 2 := hj
    have : j = 0 ∨ j = 1 := by omega
    rcases this with rfl | rfl <;> (rw [← h]; simp [go_sem, xl3])
  · intro s hs
    have : s = inN2 ∨ s = dlN 0 2 := by simpa [xl3] using hs
    rcases this with rfl | rfl <;> decide
  · intro s hs
    have : s = inN2 ∨ s = dlN 0 2 := by simpa [xl3] using hs
    rcases this with rfl | rfl <;> decide
set_option maxRecDepth 100000 in
theorem net_q {w W : World}
    (h : ((((((w.alloc (.cells #[.slice none 0 0, .int .i64 0, .slice none 0 0] 46)).alloc (.cells #[.int .i64 0, .int .i64 1] 3)).alloc (.cells #[.int .i64 0, .int .i64 2] 3)).alloc (.cells #[.int .i64 0, .int .i64 0] 3)).alloc (.cells #[.slice (some ⟨w.heap.size + 1 + 1, 0, none⟩) 2 2, .slice (some ⟨w.heap.size + 1 + 1 + 1, 0, none⟩) 2 2] 23)).alloc (.cells #[.slice (some ⟨w.heap.size + 1, 0, none⟩) 2 2, .int .i64 2, .slice (some ⟨w.heap.size + 1 + 1 + 1 + 1, 0, none⟩) 2 2] 46)) = W) :
    PIn W q3 (some ⟨w.heap.size + 1, 0, none⟩) 2 (some ⟨w.heap.size + 1 + 1 + 1 + 1, 0, none⟩) 2 ∧ PBx W (w.heap.size + 1 + 1 + 1 + 1 + 1) 2 2 2 (some ⟨w.heap.size + 1, 0, none⟩) 2 (some ⟨w.heap.size + 1 + 1 + 1 + 1, 0, none⟩) 2 ∧ Below w.heap.size w W := by
  have hb : Below w.heap.size w W := by
    rw [← h]
    exact (((((below_alloc (Below.refl _ _) _).alloc (by simp) _).alloc (by simp; omega) _).alloc (by simp; omega) _).alloc (by simp; omega) _).alloc (by simp; omega) _
  have hC1 : Kd.C (Kd.int .i64) W (some ⟨w.heap.size + 1 + 1, 0, none⟩) 2 [0, 2] := ints_C (l := [0, 2]) (by decide) (fun j hj => by
    have : j = 0 ∨ j = 1 := by have : j < 2 := hj; omega
    rcases this with rfl | rfl <;> (rw [← h]; simp [go_sem]))
  have hC2 : Kd.C (Kd.int .i64) W (some ⟨w.heap.size + 1 + 1 + 1, 0, none⟩) 2 [0, 0] := ints_C (l := [0, 0]) (by decide) (fun j hj => by
    have : j = 0 ∨ j = 1 := by have : j < 2 := hj; omega
    rcases this with rfl | rfl <;> (rw [← h]; simp [go_sem]))
  refine ⟨⟨ints_C (l := q3.of) (by decide) (fun j hj => ?_), rows_C (l := q3.ah) (by decide) (fun j hj => ?_), by decide, by decide⟩, ⟨by rw [← h]; simp [go_sem], by rw [← h]; simp [go_sem], by rw [← h]; simp [go_sem]⟩, hb⟩
  · have : j = 0 ∨ j = 1 := by have : j < 2 := hj; omega
    rcases this with rfl | rfl <;> (rw [← h]; simp [go_sem, q3])
  · have : j = 0 ∨ j = 1 := by have : j < 2 := hj; omega
    rcases this with rfl | rfl
    · exact ⟨some ⟨w.heap.size + 1 + 1, 0, none⟩, 2, by rw [← h]; simp [go_sem, q3], by decide, hC1⟩
    · exact ⟨some ⟨w.heap.size + 1 + 1 + 1, 0, none⟩, 2, by rw [← h]; simp [go_sem, q3], by decide, hC2⟩
set_option maxRecDepth 100000 in
set_option maxHeartbeats 8000000 in
theorem awake13_any (w : World) : Calls Tryd.prog 22 #[] w fun e w' => e = .returned (.bool true) ∧ Below w.heap.size w w' := by
  go_enter Tryd.func22, Tryd.ntmps22
  go_upto_region 2 with fail
  obtain ⟨W1, hW1⟩ : ∃ W, ((((w.alloc (.cells #[.int .i64 0] 3)).alloc (.cells #[.int .i64 2, .int .i64 0, .int .i64 1, .slice none 0 0, .string ⟨#[]⟩, .int .i64 0, .int .i64 0, .int .i64 0, .int .i64 8, .int .i64 0, .int .i64 1, .slice (some ⟨w.heap.size, 0, none⟩) 1 1, .string ⟨#[]⟩, .int .i64 0, .int .i64 0, .int .i64 2] 39)).alloc (.cells #[.int .i64 0, .int .i64 1] 3)).alloc (.cells #[.slice (some ⟨w.heap.size + 1, 0, none⟩) 2 2, .slice (some ⟨w.heap.size + 2, 0, none⟩) 2 2, .int .i64 2] 25)) = W := ⟨_, rfl⟩
  try rw [hW1]
  obtain ⟨hI, hL, hb1, hz1⟩ := net3 hW1
  obtain ⟨L, hLe⟩ : ∃ L, w.heap.size + 1 + 1 + 1 = L := ⟨_, rfl⟩
  have hL' : LBx W1 (w.heap.size + 1 + 1 + 1) 2 2 2 (some ⟨w.heap.size + 1, 0, none⟩) 2 (some ⟨w.heap.size + 2, 0, none⟩) 2 := hL
  obtain ⟨s1, hs1⟩ : ∃ s, w.heap.size + 1 = s := ⟨_, rfl⟩
  obtain ⟨s2, hs2⟩ : ∃ s, w.heap.size + 2 = s := ⟨_, rfl⟩
  rw [hLe] at hL' ⊢
  rw [hs1, hs2] at hI hL'
  have hrun : ∀ (k : Int) (W : World), Below W1.heap.size W1 W → Calls Tryd.prog 21 #[.agg #[.slice (some ⟨s1, 0, none⟩) 2 2, .slice (some ⟨s2, 0, none⟩) 2 2, .int .i64 2], .int .i64 k] W (PRunP W xl3 k) := fun k W hW => prun_any xl3 _ _ _ _ k W (hI.below hW)
  have hck : ∀ (p : PV) A2 c2 B2 d2 (W : World), Below W1.heap.size W1 W → PIn W p A2 c2 B2 d2 → PMay xl3.nd p → Calls Tryd.prog 24 #[.agg #[.slice (some ⟨s1, 0, none⟩) 2 2, .slice (some ⟨s2, 0, none⟩) 2 2, .int .i64 2], pV p A2 c2 B2 d2] W fun e w' => e = .returned (.int .i64 0) ∧ Below W.heap.size W w' := fun p A2 c2 B2 d2 W hW hP hM => (pcheck_any xl3 _ _ _ _ p A2 c2 B2 d2 W (hI.below hW) hP ((may_iff _).1 may3)).mono fun e w' h => by
    obtain ⟨r, rfl, h1, h2, h3⟩ := h
    rw [h2.2 hM]
    exact ⟨rfl, h3⟩
  have HRun := Lib.hid hrun
  have HCk := Lib.hid hck
  have HL1 := Lib.hid hL'
  have HB1 := Lib.hid hb1
  obtain ⟨x0, x1, x2⟩ := HL1.out
  clear hW1 hI hL hL' hb1 hz1 hLe hs1 hs2 hrun hck
  go_wp2_with fail
  refine (HRun.out 1 W1 (Below.refl _ _)).mono ?_
  rintro e w2 hP
  obtain ⟨hb2, p, Bo, D, N, rfl, hM⟩ := hP.ok (by decide) may3 (fun _ _ _ h => free_low low3 h) (by decide)
  have hN1 : N = 1 := by have h1 := hM.k; have h2 := hM.may.n1; have h3 := hM.n; omega
  subst hN1
  have HPi := Lib.hid (hM.inn (by decide))
  have HPv := Lib.hid hM.val
  have HMy := Lib.hid hM.may
  have ho1 : p.of.getD 1 0 = 0 := by have h1 := hM.may.ofl 1 (by decide); have h2 := hM.n; omega
  have c1 := hM.of.c 1 (by decide)
  rw [ho1] at c1
  have HC1 := Lib.hid c1
  have HL2 := Lib.hid (HL1.out.below hb2)
  have HB2 := Lib.hid hb2
  have e2 : xl3.nd.length = 2 := rfl
  rw [e2]
  rw [e2] at HPv HPi
  clear hP hb2 hM ho1 e2 x0 x1 x2 c1
  go_upto_region 3 with fail
  obtain ⟨W3, hW3⟩ : ∃ W, w2.alloc (Obj.cells #[Value.slice (some ⟨Bo, 0, none⟩) 2 2, Value.int .i64 1, Value.slice (some ⟨D, 0, none⟩) 1 1] 46) = W := ⟨_, rfl⟩
  rw [hW3]
  obtain ⟨hp3, hb3, hz3⟩ := box_parts hW3
  obtain ⟨T, hT⟩ : ∃ T, w2.heap.size = T := ⟨_, rfl⟩
  rw [hT] at hp3 ⊢
  have HP3 := Lib.hid hp3
  have HL3 := Lib.hid (HL2.out.below hb3)
  have HB3 := Lib.hid (HB2.out.trans (hb3.mono HB2.out.size))
  have HPi3 := Lib.hid (HPi.out.below hb3)
  have HC3 : Hid (W3.cell? ⟨Bo, 1, none⟩ = some (.int .i64 0)) := Lib.hid ((hb3.cell (p := ⟨Bo, 1, none⟩) (World.block_lt_of_cell? w2 _ HC1.out)).trans HC1.out)
  obtain ⟨x0, x1, x2⟩ := HL3.out
  clear hW3 hp3 hb3 hz3 hT HPi HC1 HL2 HB2
  go_wp2_with fail
  refine (HRun.out 65 W3 HB3.out).mono ?_
  rintro e w4 hP
  obtain ⟨rfl, hb4⟩ := hP.arg (by decide)
  have HP4 := Lib.hid (HP3.out.below hb4)
  have HL4 := Lib.hid (HL3.out.below hb4)
  have HB4 := Lib.hid (HB3.out.trans (hb4.mono HB3.out.size))
  have HPi4 := Lib.hid (HPi3.out.below hb4)
  have HC4 : Hid (w4.cell? ⟨Bo, 1, none⟩ = some (.int .i64 0)) := Lib.hid ((hb4.cell (p := ⟨Bo, 1, none⟩) (World.block_lt_of_cell? W3 _ HC3.out)).trans HC3.out)
  clear hP hb4 x0 x1 x2 HPi3 HC3 HL3 HB3 HP3
  go_upto_region 5 with fail
  obtain ⟨W5, hW5⟩ : ∃ W, ((((((w4.alloc (.cells #[.slice none 0 0, .int .i64 0, .slice none 0 0] 46)).alloc (.cells #[.int .i64 0, .int .i64 1] 3)).alloc (.cells #[.int .i64 0, .int .i64 2] 3)).alloc (.cells #[.int .i64 0, .int .i64 0] 3)).alloc (.cells #[.slice (some ⟨w4.heap.size + 1 + 1, 0, none⟩) 2 2, .slice (some ⟨w4.heap.size + 1 + 1 + 1, 0, none⟩) 2 2] 23)).alloc (.cells #[.slice (some ⟨w4.heap.size + 1, 0, none⟩) 2 2, .int .i64 2, .slice (some ⟨w4.heap.size + 1 + 1 + 1 + 1, 0, none⟩) 2 2] 46)) = W := ⟨_, rfl⟩
  rw [hW5]
  obtain ⟨hq, hqb, hb5⟩ := net_q hW5
  obtain ⟨X, hX⟩ : ∃ X, w4.heap.size + 1 + 1 + 1 + 1 + 1 = X := ⟨_, rfl⟩
  rw [hX] at hqb ⊢
  obtain ⟨Q1, hQ1⟩ : ∃ X, w4.heap.size + 1 + 1 + 1 + 1 = X := ⟨_, rfl⟩
  obtain ⟨Q2, hQ2⟩ : ∃ X, w4.heap.size + 1 = X := ⟨_, rfl⟩
  rw [hQ1] at hq hqb
  rw [hQ2] at hq hqb
  have HQ := Lib.hid hq
  have HX5 := Lib.hid hqb
  have HP5 := Lib.hid (HP4.out.below hb5)
  have HL5 := Lib.hid (HL4.out.below hb5)
  have HB5 := Lib.hid (HB4.out.trans (hb5.mono HB4.out.size))
  have HPi5 := Lib.hid (HPi4.out.below hb5)
  have c1 : W5.cell? ⟨Bo, 1, none⟩ = some (.int .i64 0) := (hb5.cell (p := ⟨Bo, 1, none⟩) (World.block_lt_of_cell? w4 _ HC4.out)).trans HC4.out
  have HCk1 : Hid (Calls Tryd.prog 24 #[.agg #[.slice (some ⟨s1, 0, none⟩) 2 2, .slice (some ⟨s2, 0, none⟩) 2 2, .int .i64 2], .agg #[.slice (some ⟨Q2, 0, none⟩) 2 2, .int .i64 2, .slice (some ⟨Q1, 0, none⟩) 2 2]] W5 fun e w' => e = .returned (.int .i64 0) ∧ Below W5.heap.size W5 w') := Lib.hid (HCk.out q3 _ 2 _ 2 W5 HB5.out HQ.out q3_may)
  have HCk2 : Hid (∀ W, Below W5.heap.size W5 W → Calls Tryd.prog 24 #[.agg #[.slice (some ⟨s1, 0, none⟩) 2 2, .slice (some ⟨s2, 0, none⟩) 2 2, .int .i64 2], .agg #[.slice (some ⟨Bo, 0, none⟩) 2 2, .int .i64 1, .slice (some ⟨D, 0, none⟩) 1 1]] W fun e w' => e = .returned (.int .i64 0) ∧ Below W.heap.size W w') := Lib.hid (fun W hW => by
    have h := HCk.out p _ 2 _ 1 W (HB5.out.trans (hW.mono HB5.out.size)) (HPi5.out.below hW) HMy.out
    rw [← HPv.out] at h
    exact h)
  obtain ⟨x0, x1, x2⟩ := HL5.out
  obtain ⟨p0, p1, p2⟩ := HP5.out
  obtain ⟨z0, z1, z2⟩ := HX5.out
  have p1' : W5.cell? ⟨T, 1, none⟩ = some (.int .i64 1) := p1
  have z1' : W5.cell? ⟨X, 1, none⟩ = some (.int .i64 2) := z1
  clear hW5 hq hqb hb5 hX hQ1 hQ2 HP4 HL4 HB4 HPi4 HC4 p1 z1
  go_wp2_with (first
    | fail
    | (go_at_call 24; refine (HCk2.out w7 hb7).mono ?_; rintro e w8 ⟨rfl, hb8⟩)
    | (go_at_call 24; refine HCk1.out.mono ?_; rintro e w7 ⟨rfl, hb7⟩; obtain ⟨x0, x1, x2⟩ := HL5.out.below hb7; obtain ⟨p0, p1, p2⟩ := HP5.out.below hb7; have p1' : w7.cell? ⟨T, 1, none⟩ = some (.int .i64 1) := p1; clear p1))
  go_ret
  have h5 := HB1.out.trans (HB5.out.mono HB1.out.size)
  have h7 := h5.trans (hb7.mono h5.size)
  exact ⟨by try rfl, h7.trans (hb8.mono h7.size)⟩
end Go.Proofs.YtonnmkhmhndalaaDoor
end
