/- A netlist that grows, in memory: a node more. A netlist that grows, in memory: a node so wide. A netlist that grows, in memory: what a node hangs on, anew. Netlists out of numbers: what stands while one gate is laid. -/
import Derived.Test.YtonnmkhmhndalaaDoorMgJ
import Derived.Deep.RegionLaw
import Derived.BigRegion
import Derived.Deep.AppendLies
import Derived.BigQuiet
import Derived.Deep.QuietTactic
namespace Go.Proofs.YtonnmkhmhndalaaDoor
set_option linter.unusedVariables false
set_option linter.unusedSimpArgs false
open Go.RowKit Go.Proofs.YtonnmkhmhndalaaDoorW.PrintWords Go.Proofs.YtonnmkhmhndalaaDoorW.PrintLast Go.Proofs.YtonnmkhmhndalaaDoorW.PrintMore

/-- the block that grows: its list of nodes, its list of ports -/
structure LState (W : World) (X base : Nat) (F : Nat → Prop) (l : List S39) (A : Option Addr) (c : Nat) (B : Option Addr) (m d : Nat) (p : Int) : Prop where
  k0 : W.cell? ⟨X, 0, none⟩ = some (.slice A l.length c)
  k1 : W.cell? ⟨X, 1, none⟩ = some (.slice B m d)
  k2 : W.cell? ⟨X, 2, none⟩ = some (.int .i64 p)
  f0 : W.frozen? ⟨X, 0, none⟩ = false
  f1 : W.frozen? ⟨X, 1, none⟩ = false
  f2 : W.frozen? ⟨X, 2, none⟩ = false
  r : Kd.R k39 39 W base (fun b => b ≠ X ∧ F b) (.slice A l.length c) l
  hb : base ≤ X
theorem LState.x {W : World} {X base : Nat} {F : Nat → Prop} {l : List S39} {A : Option Addr} {c : Nat} {B : Option Addr} {m d : Nat} {p : Int} (h : LState W X base F l A c B m d p) : X < W.heap.size := World.block_lt_of_cell? W _ h.k0
theorem LState.below {W W' : World} {X base : Nat} {F : Nat → Prop} {l : List S39} {A : Option Addr} {c : Nat} {B : Option Addr} {m d : Nat} {p : Int} (h : LState W X base F l A c B m d p) (hb : Below W.heap.size W W') : LState W' X base F l A c B m d p :=
  ⟨(hb.cell (p := ⟨X, 0, none⟩) h.x).trans h.k0, (hb.cell (p := ⟨X, 1, none⟩) h.x).trans h.k1, (hb.cell (p := ⟨X, 2, none⟩) h.x).trans h.k2, (hb.frozen (p := ⟨X, 0, none⟩) h.x).trans h.f0, (hb.frozen (p := ⟨X, 1, none⟩) h.x).trans h.f1, (hb.frozen (p := ⟨X, 2, none⟩) h.x).trans h.f2, Kd.R_below h.r hb, h.hb⟩

theorem LState.put {w9 : World} {X base : Nat} {F : Nat → Prop} {l : List S39} {A1 : Option Addr} {c1 : Nat} {B : Option Addr} {m d : Nat} {p : Int} {u : Value} (y0 : w9.cell? ⟨X, 0, none⟩ = some u) (y1 : w9.cell? ⟨X, 1, none⟩ = some (.slice B m d)) (y2 : w9.cell? ⟨X, 2, none⟩ = some (.int .i64 p))
    (z0 : w9.frozen? ⟨X, 0, none⟩ = false) (z1 : w9.frozen? ⟨X, 1, none⟩ = false) (z2 : w9.frozen? ⟨X, 2, none⟩ = false) (HO : Kd.R k39 39 w9 base (fun b => b ≠ X ∧ F b) (.slice A1 l.length c1) l) (hb : base ≤ X) : LState (w9.setCell ⟨X, 0, none⟩ (.slice A1 l.length c1)) X base F l A1 c1 B m d p :=
  ⟨by simp [go_sem, y0], by simp [go_sem, y1], by simp [go_sem, y2], by simp [go_sem, z0], by simp [go_sem, z1], by simp [go_sem, z2], Kd.R_far HO (fun k hk => hk.1) _, hb⟩

theorem info39' : (Tryd.prog.info? 39).map (fun i => (i.zero, i.size, i.bytes)) = some (some (.agg #[.int .i64 0, .int .i64 0, .int .i64 0, .slice none 0 0, .string ⟨#[]⟩, .int .i64 0, .int .i64 0, .int .i64 0]), 8, 88) := by kernel_rfl

set_option maxRecDepth 100000 in
set_option maxHeartbeats 8000000 in
theorem adds_any (X base : Nat) (F : Nat → Prop) (l : List S39) (A : Option Addr) (c : Nat) (B : Option Addr) (m d : Nat) (p : Int) (x : S39) (A3 : Option Addr) (c3 : Nat) (w : World) (hS : LState w X base F l A c B m d p)
    (h3 : Kd.R (Kd.int .i64) 3 w base (fun b => (b ≠ X ∧ F b) ∧ some b ≠ (Value.slice A l.length c).ownBlock) (.slice A3 x.f3.length c3) x.f3) (hF : ∀ b, w.heap.size ≤ b → F b) (hl : (l.length + 1) * 88 ≤ 140737488355328) :
    Calls Tryd.prog 30 #[.pointer (some ⟨X, 0, none⟩), ndV x A3 c3] w fun e w' => e = .returned (.int .i64 l.length) ∧ ∃ A' c', LState w' X base F (l ++ [x]) A' c' B m d p ∧ Kept w w' (fun b => b = X ∨ F b) ∧ Below base w w' := by
  have HS := Lib.hid hS
  have H3 := Lib.hid h3
  have HL := Lib.hid hl
  have HF0 := Lib.hid hF
  clear hS h3 hl hF
  go_enter Tryd.func30, Tryd.ntmps30
  go_upto_region 1 with fail
  obtain ⟨W1, hW1⟩ : ∃ W, w.alloc (Obj.cells #[.int .i64 x.f0, .int .i64 x.f1, .int .i64 x.f2, .slice A3 x.f3.length c3, .string x.f4, .int .i64 x.f5, .int .i64 x.f6, .int .i64 x.f7] 39) = W := ⟨_, rfl⟩
  rw [hW1]
  have hb1 : Below w.heap.size w W1 := by rw [← hW1]; exact below_alloc (Below.refl _ _) _
  have hs1 : W1.heap.size = w.heap.size + 1 := by rw [← hW1]; simp
  have b0 : W1.cell? ⟨w.heap.size, 0, none⟩ = some (.int .i64 x.f0) := by rw [← hW1]; simp [go_sem]
  have b1 : W1.cell? ⟨w.heap.size, 1, none⟩ = some (.int .i64 x.f1) := by rw [← hW1]; simp [go_sem]
  have b2 : W1.cell? ⟨w.heap.size, 2, none⟩ = some (.int .i64 x.f2) := by rw [← hW1]; simp [go_sem]
  have b3 : W1.cell? ⟨w.heap.size, 3, none⟩ = some (.slice A3 x.f3.length c3) := by rw [← hW1]; simp [go_sem]
  have b4 : W1.cell? ⟨w.heap.size, 4, none⟩ = some (.string x.f4) := by rw [← hW1]; simp [go_sem]
  have b5 : W1.cell? ⟨w.heap.size, 5, none⟩ = some (.int .i64 x.f5) := by rw [← hW1]; simp [go_sem]
  have b6 : W1.cell? ⟨w.heap.size, 6, none⟩ = some (.int .i64 x.f6) := by rw [← hW1]; simp [go_sem]
  have b7 : W1.cell? ⟨w.heap.size, 7, none⟩ = some (.int .i64 x.f7) := by rw [← hW1]; simp [go_sem]
  have hS1 := HS.out.below hb1
  have HS1 := Lib.hid hS1
  have HR1 := Lib.hid hS1.r
  have H31 := Lib.hid (Kd.R_below H3.out hb1)
  obtain ⟨q0, q1, q2, r0, r1, r2, -, -⟩ := HS1.out
  have HB1 := Lib.hid hb1
  have HZ1 := Lib.hid hs1
  have nx : (W1.alloc (Obj.cells #[.int .i64 x.f0, .int .i64 x.f1, .int .i64 x.f2, .slice A3 x.f3.length c3, .string x.f4, .int .i64 x.f5, .int .i64 x.f6, .int .i64 x.f7] 39)).cell? ⟨X, 0, none⟩ = some (.slice A l.length c) := (World.cell?_alloc_lt W1 _ ⟨X, 0, none⟩ hS1.x).trans q0
  have hXW := hS1.x
  have HXW := Lib.hid hXW
  have HNo := Lib.hid (show some X ≠ (Value.slice A l.length c).ownBlock from fun e => (HR1.out.1 X e.symm).1 rfl)
  clear hW1 hb1 hs1 hS1 hXW
  go_region_law (refine Kd.R_append_step k39 (w0 := W1) (W := W1.drew) base rfl (.tmp 10) (.tmp 12) 22 39 (.agg #[.int .i64 0, .int .i64 0, .int .i64 0, .slice none 0 0, .string ⟨#[]⟩, .int .i64 0, .int .i64 0, .int .i64 0]) 88 rfl Tryd.underlying22 info39' rfl (by decide) (by decide) (.slice A l.length c) l x [.int .i64 x.f0, .int .i64 x.f1, .int .i64 x.f2, .slice A3 x.f3.length c3, .string x.f4, .int .i64 x.f5, .int .i64 x.f6, .int .i64 x.f7] (fun b => b ≠ X ∧ F b) (fun b => (b ≠ X ∧ F b) ∧ some b ≠ (Value.slice A l.length c).ownBlock) rfl rfl (k39_mkM _ base _ x (Kd.R_drew H31.out)) (fun _ h => h) (fun b hb => ⟨fun e => by have := HXW.out; subst e; exact Nat.lt_irrefl _ (Nat.lt_of_lt_of_le this hb), HF0.out b (Nat.le_trans HB1.out.size hb)⟩) (Kd.R_drew HR1.out) (Below.refl _ _).drew (Nat.le_trans HS1.out.hb (Nat.le_of_lt HXW.out)) HL.out ?_; intro v1 w9 ho hb hg hat; obtain ⟨A1, c1, hv1⟩ := Kd.R_slice ho; subst hv1; rw [show (l ++ [x]).length = l.length + 1 from by simp] at ho; rw [show (l ++ [x]).length = l.length + 1 from by simp]; have y0 := (hg.cell_far ⟨X, 0, none⟩ HXW.out HNo.out).trans q0; have y1 := (hg.cell_far ⟨X, 1, none⟩ HXW.out HNo.out).trans q1; have y2 := (hg.cell_far ⟨X, 2, none⟩ HXW.out HNo.out).trans q2; have z0 := (hg.frozen_far ⟨X, 0, none⟩ HXW.out HNo.out).trans r0; have z1 := (hg.frozen_far ⟨X, 1, none⟩ HXW.out HNo.out).trans r1; have z2 := (hg.frozen_far ⟨X, 2, none⟩ HXW.out HNo.out).trans r2; have HO := Lib.hid ho; have HBo := Lib.hid hb; have HGo := Lib.hid hg; clear ho hb hg hat)
  all_goals
    have hO := HO.out
    rw [show l.length + 1 = (l ++ [x]).length from by simp] at hO
    have hF := LState.put y0 y1 y2 z0 z1 z2 hO HS1.out.hb
    rw [show (l ++ [x]).length = l.length + 1 from by simp] at hF
    have HF := Lib.hid hF
    have HK : Hid (Kept w (w9.setCell ⟨X, 0, none⟩ (.slice A1 (l.length + 1) c1)) (fun b => b = X ∨ F b)) := by
      refine Lib.hid (Kept.setCell ?_ (Or.inl (Or.inl rfl)) _)
      refine Kept.of_grown HGo.out ((Kept.of_below HB1.out _).drew) (fun k hk => Or.inl (Or.inr (HR1.out.1 k hk).2))
    have HBl : Hid (Below base w (w9.setCell ⟨X, 0, none⟩ (.slice A1 (l.length + 1) c1))) := by
      have h1 := HB1.out.mono (Nat.le_trans HS1.out.hb (Nat.le_of_lt HS.out.x))
      have h2 := h1.trans HBo.out
      exact Lib.hid ⟨h2.os, h2.tape, h2.output, by simpa [World.setCell] using h2.size, fun k hk => (Below.heap_setCell w9 _ _ k (by have := HS1.out.hb; show k ≠ X; omega)).trans (h2.block k hk)⟩
    clear hO hF
    go_wp2_with fail
    go_ret
    exact ⟨by have := HL.out; simp; exact w64 (by omega) (by omega), _, _, HF.out, HK.out, HBl.out⟩
end Go.Proofs.YtonnmkhmhndalaaDoor
namespace Go.Proofs.YtonnmkhmhndalaaDoor
set_option linter.unusedVariables false
set_option linter.unusedSimpArgs false
open Go.RowKit Go.Proofs.YtonnmkhmhndalaaDoorW.PrintWords Go.Proofs.YtonnmkhmhndalaaDoorW.PrintLast Go.Proofs.YtonnmkhmhndalaaDoorW.PrintMore

/-- l' goes on where l ends -/
def Ext (l l' : List S39) : Prop := l.length ≤ l'.length ∧ ∀ k : Nat, k < l.length → wAt l' (k : Int) = wAt l (k : Int)
theorem Ext.refl (l : List S39) : Ext l l := ⟨Nat.le_refl _, fun _ _ => rfl⟩
theorem Ext.trans {a b c : List S39} (h : Ext a b) (h2 : Ext b c) : Ext a c := ⟨Nat.le_trans h.1 h2.1, fun k hk => (h2.2 k (Nat.lt_of_lt_of_le hk h.1)).trans (h.2 k hk)⟩
theorem Ext.push (l : List S39) (y : S39) : Ext l (l ++ [y]) := ⟨by simp, fun k hk => wAt_push l y k ⟨by omega, by omega⟩⟩
theorem At.nat {l : List S39} {k : Nat} (h : k < l.length) : At l (k : Int) := ⟨by omega, by omega⟩
theorem LState.mono {W : World} {X base : Nat} {F G : Nat → Prop} {l : List S39} {A : Option Addr} {c : Nat} {B : Option Addr} {m d : Nat} {p : Int} (h : LState W X base F l A c B m d p) (hFG : ∀ b, F b → b < W.heap.size → G b) : LState W X base G l A c B m d p :=
  ⟨h.k0, h.k1, h.k2, h.f0, h.f1, h.f2, Kd.R_mono (Kd.R_bound h.r) (fun k hk => ⟨hk.1.1, hFG k hk.1.2 hk.2.2.1⟩), h.hb⟩
theorem LState.node {W : World} {X base : Nat} {F : Nat → Prop} {l : List S39} {A : Option Addr} {c : Nat} {B : Option Addr} {m d : Nat} {p : Int} (h : LState W X base F l A c B m d p) (k : Nat) (hk : k < l.length) : ∃ b o A3 c3, A = some ⟨b, o, none⟩ ∧ (l.getD k z39).f3.length ≤ c3 ∧ b < W.heap.size ∧ ∀ W', Below W.heap.size W W' → NAt W' b (o + k * 8) (l.getD k z39) A3 c3 :=
  nodes_in (Kd.R_reads' h.r).2.2 k hk
theorem LState.cap {W : World} {X base : Nat} {F : Nat → Prop} {l : List S39} {A : Option Addr} {c : Nat} {B : Option Addr} {m d : Nat} {p : Int} (h : LState W X base F l A c B m d p) : l.length ≤ c := (Kd.R_reads' h.r).2.1
theorem LState.own {W : World} {X base : Nat} {F : Nat → Prop} {l : List S39} {A : Option Addr} {c : Nat} {B : Option Addr} {m d : Nat} {p : Int} (h : LState W X base F l A c B m d p) : ∀ k, (Value.slice A l.length c).ownBlock = some k → k < W.heap.size := Kd.R_lt h.r
theorem wAt_nat (l : List S39) (k : Nat) : wAt l (k : Int) = (l.getD k z39).f2 := by unfold wAt; rw [Int.toNat_natCast]

theorem grown_below {w w1 : World} (hg : w.grownBy w1 none) : Below w.heap.size w w1 := ⟨hg.os, hg.tape, hg.output, hg.size, fun k hk => hg.block k hk (fun e => by cases e)⟩
/-- a node of its own list, at the end -/
theorem adds_lit {X base : Nat} {F : Nat → Prop} {l : List S39} {A : Option Addr} {c : Nat} {B : Option Addr} {m d : Nat} {p : Int} {x : S39} {A3 : Option Addr} {c3 : Nat} {w w1 : World} (hS : LState w X base F l A c B m d p) (hb : Below w.heap.size w w1)
    (h3 : Kd.R (Kd.int .i64) 3 w1 base (fun b => w.heap.size ≤ b) (.slice A3 x.f3.length c3) x.f3) (hF : ∀ b, w.heap.size ≤ b → F b) (hl : l.length ≤ 1000) :
    Calls Tryd.prog 30 #[.pointer (some ⟨X, 0, none⟩), ndV x A3 c3] w1 fun e w' => e = .returned (.int .i64 l.length) ∧ ∃ A' c', LState w' X base F (l ++ [x]) A' c' B m d p ∧ Kept w w' (fun b => b = X ∨ F b) ∧ Below base w w' := by
  refine (adds_any X base F l A c B m d p x A3 c3 w1 (hS.below hb) (Kd.R_mono h3 fun b hb => ⟨⟨fun e => by have := hS.x; omega, hF b hb⟩, fun e => by have := hS.own b e.symm; omega⟩) (fun b hb' => hF b (Nat.le_trans hb.size hb')) (by omega)).mono ?_
  rintro e w' ⟨rfl, A', c', hS', hK, hB⟩
  exact ⟨rfl, A', c', hS', (Kept.of_below hb _).then_ hK (fun k hk => Or.inl hk), (hb.mono (Nat.le_trans hS.hb (Nat.le_of_lt hS.x))).trans hB⟩

set_option maxRecDepth 100000 in
set_option maxHeartbeats 8000000 in
theorem fit_any (X base : Nat) (F : Nat → Prop) (l : List S39) (A : Option Addr) (c : Nat) (B : Option Addr) (m d : Nat) (p : Int) (k : Nat) (wide : Int) (w : World) (hS : LState w X base F l A c B m d p) (hG : GL l) (hk : k < l.length) (h1 : 1 ≤ wide) (h2 : wide ≤ 200) (hF : ∀ b, w.heap.size ≤ b → F b) (hl : l.length ≤ 1000) :
    Calls Tryd.prog 32 #[.pointer (some ⟨X, 0, none⟩), .int .i64 k, .int .i64 wide] w fun e w' => ∃ (r : Nat) (l' : List S39) (A' : Option Addr) (c' : Nat), e = .returned (.int .i64 r) ∧ LState w' X base F l' A' c' B m d p ∧ GL l' ∧ Ext l l' ∧ l'.length ≤ l.length + 1 ∧ r < l'.length ∧ wAt l' (r : Int) = wide ∧ Kept w w' (fun b => b = X ∨ F b) ∧ Below base w w' := by
  have HS := Lib.hid hS
  have HGl := Lib.hid hG
  have HF0 := Lib.hid hF
  have HK := Lib.hid hk
  have H12 := Lib.hid (And.intro h1 h2)
  have HL := Lib.hid hl
  obtain ⟨b, o, A3, c3, hA, hl3, hbs, hND⟩ := hS.node k hk
  have n2 := (hND _ (Below.refl _ _)).k2
  rw [← wAt_nat] at n2
  have hw : wAt l (k : Int) = wide ∨ wAt l (k : Int) ≠ wide := Decidable.em _
  have hc := hS.cap
  have HC := Lib.hid hc
  subst hA
  obtain ⟨q0, q1, q2, r0, r1, r2, -, -⟩ := HS.out
  have hwk := wAt_nat l k
  generalize hwv : wAt l (k : Int) = wv at *
  have HWv := Lib.hid hwv
  clear hS hG hF hl h1 h2 hND hwk hwv
  go_enter Tryd.func32, Tryd.ntmps32
  rcases hw with hw | hw
  · have e1 : (wv == wide) = true := beq_iff_eq.2 hw
    have HW := Lib.hid hw
    clear hw
    go_wp2_with fail
    go_ret
    exact ⟨k, l, _, _, rfl, HS.out, HGl.out, Ext.refl l, Nat.le_succ _, HK.out, HWv.out.trans HW.out, Kept.refl _ _, Below.refl _ _⟩
  · have e1 : (wv == wide) = false := beq_eq_false_iff_ne.2 hw
    have HW := Lib.hid hw
    clear hw
    go_wp2_with (first
      | fail
      | ((with_reducible refine gate_dst (N := 22) rfl ?_); refine Kd.R_lit (Kd.int .i64) (w0 := w) base 3 ?hg (N := 22) ?hd (xs := [(k : Int)]) (inner := [.int .i64 (k : Int)]) (ok := fun b => w.heap.size ≤ b) (okp := fun _ => False) ?hr ?hp (fun _ hk => hk.elim) (Nat.le_refl _) (Below.refl _ _) (Nat.le_trans HS.out.hb (Nat.le_of_lt HS.out.x)) (by simp) ?_; (case hd => rfl); (case hg => rfl); (case hr => first | (go_simp; done) | (go_simp; rfl)); (case hp => exact (Reps.one (show Kd.M (Kd.int .i64) _ _ _ (k : Int) [.int .i64 (k : Int)] from rfl) (Reps.none _ _))); intro vl w1 ho hb hg _; obtain ⟨Al, cl, hvl⟩ := Kd.R_slice ho; subst hvl; have HOl := Lib.hid ho; have HBl := Lib.hid hb; have HGr := Lib.hid hg; clear ho hb hg))
    refine (adds_lit (x := ⟨6, 0, wide, [(k : Int)], ⟨#[]⟩, 0, 0, 0⟩) HS.out (grown_below HGr.out) HOl.out HF0.out HL.out).mono ?_
    rintro e w2 ⟨rfl, A', c', hS', hK, hB⟩
    have HS' := Lib.hid hS'
    have HKk := Lib.hid hK
    have HBb := Lib.hid hB
    clear hS' hK hB
    go_wp2_with fail
    go_ret
    refine ⟨l.length, _, _, _, rfl, HS'.out, HGl.out.push (g_wide (At.nat HK.out) H12.out.1 H12.out.2), Ext.push l _, by simp, by simp, ?_, HKk.out, HBb.out⟩
    rw [wAt_nat, getD_push_eq]
end Go.Proofs.YtonnmkhmhndalaaDoor
namespace Go.Proofs.YtonnmkhmhndalaaDoor
set_option linter.unusedVariables false
set_option linter.unusedSimpArgs false
open Go.RowKit Go.Proofs.YtonnmkhmhndalaaDoorW.PrintWords Go.Proofs.YtonnmkhmhndalaaDoorW.PrintLast Go.Proofs.YtonnmkhmhndalaaDoorW.PrintMore

/-- a gate in memory -/
structure GAt (W : World) (b q : Nat) (y : S71) : Prop where
  k0 : W.cell? ⟨b, q, none⟩ = some (.int .i64 y.f0)
  k1 : W.cell? ⟨b, q + 1, none⟩ = some (.int .i64 y.f1)
  k2 : W.cell? ⟨b, q + 2, none⟩ = some (.int .i64 y.f2)
  k3 : W.cell? ⟨b, q + 3, none⟩ = some (.int .i64 y.f3)
  k4 : W.cell? ⟨b, q + 4, none⟩ = some (.int .i64 y.f4)
theorem gates_at {w : World} {A : Option Addr} {l : List S71} (h : Kd.C k71 w A l.length l) (i : Nat) (hi : i < l.length) : ∃ b o, A = some ⟨b, o, none⟩ ∧ b < w.heap.size ∧ GAt w b (o + i * 5) (l.getD i z71) := by
  obtain ⟨ad, e, h0, h1, h2, h3, h4⟩ := at_T71 h i (by omega) (by omega)
  obtain ⟨ad2, e2, hc2, _⟩ := at_T71 h 0 (by omega) (by omega)
  obtain rfl : ad = ad2 := Option.some.inj (e.symm.trans e2)
  obtain ⟨b, o, sp⟩ := ad
  have hs := World.cell?_spot hc2
  have : sp = none := by simpa [Addr.add] using hs
  subst this
  rw [Int.toNat_natCast, add_plain] at h0 h1 h2 h3 h4
  exact ⟨b, o, e, World.block_lt_of_cell? w _ h0, h0, h1, h2, h3, h4⟩
theorem LState.head {W : World} {X base : Nat} {F : Nat → Prop} {l : List S39} {A : Option Addr} {c : Nat} {B : Option Addr} {m d : Nat} {p : Int} (h : LState W X base F l A c B m d p) (hn : 0 < l.length) : ∃ g, A = some ⟨g, 0, none⟩ ∧ g ≠ X ∧ F g ∧ base ≤ g ∧ g < W.heap.size := by
  obtain ⟨h0, inner, hown, hr⟩ := h.r
  rcases hown.2 with ⟨h1, h2⟩ | ⟨g, cap, cur, h1, hb, hcur, -⟩
  · omega
  · have e : A = some ⟨g, 0, none⟩ := by injection h1
    subst e
    have h2 := h0 g rfl
    exact ⟨g, rfl, h2.1, h2.2, hb, h.own g rfl⟩
/-- a field of a node of the row, anew -/
theorem LState.ins {W : World} {X base : Nat} {F : Nat → Prop} {l : List S39} {g c : Nat} {B : Option Addr} {m d : Nat} {p : Int} (h : LState W X base F l (some ⟨g, 0, none⟩) c B m d p) (k : Nat) (hk : k < l.length) (v3 : Value) (new : List Int)
    (h3 : Kd.R (Kd.int .i64) 3 W base (fun b => (b ≠ X ∧ F b) ∧ b ≠ g) v3 new) : LState (W.setCell ⟨g, k * 8 + 3, none⟩ v3) X base F (l.set k { l.getD k z39 with f3 := new }) (some ⟨g, 0, none⟩) c B m d p ∧ W.grownBy (W.setCell ⟨g, k * 8 + 3, none⟩ v3) (some g) := by
  obtain ⟨cs, hc1, hc2, hc3, hc4⟩ := Kd.R_elem h.r z39 (k : Int) (by omega) (by omega)
  obtain ⟨v0, rfl, hv0⟩ := k39_openM hc2
  have hgX : g ≠ X := (h.r.1 g rfl).1
  have hs : k39.sz = 8 := rfl
  obtain ⟨h1, h2⟩ := Kd.R_seg (okp := fun b => (b ≠ X ∧ F b) ∧ b ≠ g) h.r (k : Int) (by omega) (by omega) hc1 hc3 (j := 3) (seg := [v3]) (by rw [hs]; show 3 + 1 ≤ 8; decide) (x' := { l.getD k z39 with f3 := new }) (k39_mkM W base _ _ h3) (fun _ hb => hb)
  have e : W.setCells g ((k : Int).toNat * k39.sz + 3) [v3] = W.setCell ⟨g, k * 8 + 3, none⟩ v3 := by rw [Int.toNat_natCast]; rfl
  rw [e, Int.toNat_natCast] at h1
  rw [e] at h2
  refine ⟨⟨(h2.cell_far ⟨X, 0, none⟩ h.x (fun e => hgX (Option.some.inj e).symm)).trans h.k0 |>.trans (by rw [List.length_set]), (h2.cell_far ⟨X, 1, none⟩ h.x (fun e => hgX (Option.some.inj e).symm)).trans h.k1, (h2.cell_far ⟨X, 2, none⟩ h.x (fun e => hgX (Option.some.inj e).symm)).trans h.k2, (h2.frozen_far ⟨X, 0, none⟩ h.x (fun e => hgX (Option.some.inj e).symm)).trans h.f0, (h2.frozen_far ⟨X, 1, none⟩ h.x (fun e => hgX (Option.some.inj e).symm)).trans h.f1, (h2.frozen_far ⟨X, 2, none⟩ h.x (fun e => hgX (Option.some.inj e).symm)).trans h.f2, ?_, h.hb⟩, h2⟩
  rw [List.length_set]
  exact h1
theorem LState.froz {W : World} {X base : Nat} {F : Nat → Prop} {l : List S39} {g c : Nat} {B : Option Addr} {m d : Nat} {p : Int} (h : LState W X base F l (some ⟨g, 0, none⟩) c B m d p) (k : Nat) (hk : k < l.length) : ∀ j, W.frozen? ⟨g, k * 8 + j, none⟩ = false := by
  obtain ⟨cs, hc1, hc2, hc3, hc4⟩ := Kd.R_elem h.r z39 (k : Int) (by omega) (by omega)
  intro j
  have := hc4 j
  rwa [Int.toNat_natCast] at this

theorem LState.node0 {W : World} {X base : Nat} {F : Nat → Prop} {l : List S39} {g c : Nat} {B : Option Addr} {m d : Nat} {p : Int} (h : LState W X base F l (some ⟨g, 0, none⟩) c B m d p) (k : Nat) (hk : k < l.length) : ∃ A3 c3, (l.getD k z39).f3.length ≤ c3 ∧ NAt W g (k * 8) (l.getD k z39) A3 c3 := by
  obtain ⟨b, o, A3, c3, hA, h3, hb, hN⟩ := h.node k hk
  injection hA with hA
  injection hA with e1 e2
  subst e1 e2
  have := hN W (Below.refl _ _)
  rw [Nat.zero_add] at this
  exact ⟨A3, c3, h3, this⟩
theorem grown_base {W W' : World} {base g : Nat} (hg : W.grownBy W' (some g)) (h1 : base ≤ g) (h2 : base ≤ W.heap.size) : Below base W W' := ⟨hg.os, hg.tape, hg.output, hg.size, fun k hk => hg.block k (by omega) (fun e => by injection e with e; omega)⟩
theorem lit2 (W : World) (base : Nat) (a t : Int) (hb : base ≤ W.heap.size) : Kd.R (Kd.int .i64) 3 (W.alloc (.cells #[.int .i64 a, .int .i64 t] 3)) base (fun b => W.heap.size ≤ b) (.slice (some ⟨W.heap.size, 0, none⟩) 2 2) [a, t] :=
  ⟨fun k hk => by have : W.heap.size = k := by simpa [Value.ownBlock] using hk
                  omega, [.int .i64 a, .int .i64 t], own_lit W base 3 .i64 [a, t] hb (by simp), Reps.one (show Kd.M (Kd.int .i64) _ _ _ a [.int .i64 a] from rfl) (Reps.one (show Kd.M (Kd.int .i64) _ _ _ t [.int .i64 t] from rfl) (Reps.none _ _))⟩
set_option maxRecDepth 100000 in
set_option maxHeartbeats 8000000 in
theorem back_any (X base : Nat) (F : Nat → Prop) (l : List S39) (A : Option Addr) (c : Nat) (B : Option Addr) (m d : Nat) (p : Int) (gs : List S71) (Ag : Option Addr) (cg : Nat) (w : World) (hS : LState w X base F l A c B m d p) (hG : GL l) (hg : ∀ W, Below base w W → Kd.C k71 W Ag gs.length gs) (hcg : gs.length ≤ cg) (hF : ∀ b, w.heap.size ≤ b → F b) (hl : l.length ≤ 1000) :
    Calls Tryd.prog 35 #[.pointer (some ⟨X, 0, none⟩), .slice Ag gs.length cg] w fun e w' => ∃ l', e = .returned (.tuple #[]) ∧ LState w' X base F l' A c B m d p ∧ GL l' ∧ l'.length = l.length ∧ Kept w w' (fun b => b = X ∨ F b) ∧ Below base w w' := by
  have HS := Lib.hid hS
  have HGl := Lib.hid hG
  have HF0 := Lib.hid hF
  have HL := Lib.hid hl
  have HGs := Lib.hid hg
  have HCg := Lib.hid hcg
  obtain ⟨g, hA, hgX, hFg, hbg, hgs⟩ := hS.head (by have := hG.two; omega)
  subst hA
  have HgX := Lib.hid hgX
  obtain ⟨q0, q1, q2, r0, r1, r2, -, -⟩ := HS.out
  obtain ⟨n, hn⟩ : ∃ n, l.length = n := ⟨_, rfl⟩
  rw [hn] at q0
  have HN := Lib.hid hn
  have HN2 := Lib.hid hG.two
  have hnl : n ≤ 1000 := by omega
  have hn0 : ¬ (n : Int) = 0 := by have := hG.two; omega
  clear hS hG hF hl hg hcg hn hgX hFg hbg hgs
  go_enter Tryd.func35, Tryd.ntmps35
  go_wp2_with fail
  clear q0 q1 q2 r0 r1 r2
  go_loopw [5, 6, 7] (fun v5 v6 v7 wx => ∃ (i : Nat) (l' : List S39), v5 = .int .i64 i ∧ i ≤ n ∧ Hid (LState wx X base F l' (some ⟨g, 0, none⟩) c B m d p) ∧ Hid (GL l') ∧ Hid (l'.length = n) ∧ Hid (Kept w wx (fun b => b = X ∨ F b)) ∧ Hid (Below base w wx)) (fun v5 _ _ _ => n - (intOf v5).toNat)
  case atStart => exact ⟨0, l, rfl, Nat.zero_le _, HS, HGl, HN, Lib.hid (Kept.refl _ _), Lib.hid (Below.refl _ _)⟩
  case round =>
    obtain ⟨i, l', rfl, hi, HSx, HGx, HNx, HKx, HBx⟩ := hrel
    by_cases hlt : i < n ∧ i < gs.length
    · obtain ⟨hlt, hlg⟩ := hlt
      obtain ⟨A3, c3, hl3, hNA⟩ := HSx.out.node0 i (by rw [HNx.out]; exact hlt)
      obtain ⟨bg, og, hAg, hbg, hGA⟩ := gates_at (HGs.out wr HBx.out) i hlg
      obtain ⟨q, hq, hq2⟩ := mask_lt ((gs.getD i z71).f2 / 65536) 65535 16 (by decide) (by decide)
      have hq3 : bits .and .i64 ((gs.getD i z71).f2 / 65536) 65535 = (q : Int) := hq
      obtain ⟨t, ht⟩ : ∃ t, q % n = t := ⟨_, rfl⟩
      have htn : t < n := by rw [← ht]; exact Nat.mod_lt _ (by omega)
      have e1 : Int.tmod (q : Int) (n : Int) = (t : Int) := by rw [← ht]; rfl
      have e2 : (q : Int) % (n : Int) = (t : Int) := by rw [← ht]; rfl
      obtain ⟨A4, c4, hl4, hNT⟩ := HSx.out.node0 t (by rw [HNx.out]; exact htn)
      have q0 := HSx.out.k0
      rw [HNx.out] at q0
      have hnc := HSx.out.cap
      rw [HNx.out] at hnc
      obtain ⟨y, hy⟩ : ∃ y, l'.getD i z39 = y := ⟨_, rfl⟩
      obtain ⟨wt, hwt⟩ : ∃ v, (l'.getD t z39).f2 = v := ⟨_, rfl⟩
      obtain ⟨gy, hgy⟩ : ∃ v, gs.getD i z71 = v := ⟨_, rfl⟩
      have kt2 := hNT.k2
      rw [hwt] at kt2
      rw [hy] at hNA hl3
      rw [hgy] at hGA hq3
      have HNA := Lib.hid hNA
      have HGA := Lib.hid hGA
      have HLt := Lib.hid hlt
      have HTn := Lib.hid htn
      have HL3 := Lib.hid hl3
      have HY := Lib.hid hy
      have HWt := Lib.hid hwt
      have hgc := HCg.out
      obtain ⟨k0, k1, k2, k3, k4, k5, k6, k7, kC⟩ := HNA.out
      clear hNA hNT hGA hq ht hq2 hl4 hl3 hy hwt hgy
      subst hAg
      go_upto_region 5 with fail
      obtain ⟨W1, hW1⟩ : ∃ W, wr.alloc (Obj.cells #[.int .i64 y.f0, .int .i64 y.f1, .int .i64 y.f2, .slice A3 y.f3.length c3, .string y.f4, .int .i64 y.f5, .int .i64 y.f6, .int .i64 y.f7] 39) = W := ⟨_, rfl⟩
      rw [hW1]
      obtain ⟨hbx, hb1⟩ := box_node HNA.out.hC hW1
      have HS1 := Lib.hid (HSx.out.below hb1)
      have HK1 := Lib.hid (HKx.out.below hb1)
      have HB1 := Lib.hid (HBx.out.trans (hb1.mono (Nat.le_trans HSx.out.hb (Nat.le_of_lt HSx.out.x))))
      have HSz := Lib.hid (Nat.le_trans HKx.out.1 hb1.size)
      obtain ⟨P, hP⟩ : ∃ P, wr.heap.size = P := ⟨_, rfl⟩
      have hPg : P ≠ g := fun e => by have := HSx.out.own g rfl; omega
      have HPg := Lib.hid hPg
      rw [hP] at hbx ⊢
      clear hPg
      have q1 := (hb1.cell (p := ⟨X, 0, none⟩) HSx.out.x).trans q0
      have t1 := (hb1.cell (p := ⟨g, t * 8 + 2, none⟩) (World.block_lt_of_cell? wr _ kt2)).trans kt2
      have g1 := (hb1.cell (p := ⟨bg, og + i * 5 + 1, none⟩) hbg).trans HGA.out.k1
      have g2 := (hb1.cell (p := ⟨bg, og + i * 5 + 2, none⟩) hbg).trans HGA.out.k2
      have hNA1 := HNA.out.below hb1
      have HNA1 := Lib.hid hNA1
      have HBx1 := Lib.hid hbx
      have hFz := HS1.out.froz i (by rw [HNx.out]; exact hlt) 3
      have m0 := hbx.k0
      have m2 := hbx.k2
      have m3 := hbx.k3
      have n3 := hNA1.k3
      clear q0 k0 k1 k2 k3 k4 k5 k6 k7 kC kt2 hb1 hW1 hbx hNA1 HNA HGA HSx HBx HKx
      go_upto_region 6 with fail
      obtain ⟨u, hu, hu2⟩ := mask_lt (gy.f1 / 65536) 1 1 (by decide) (by decide)
      have hu3 : bits .and .i64 (gy.f1 / 65536) 1 = (u : Int) := hu
      clear hu
      have hways : wt ≠ y.f2 ∨ (wt = y.f2 ∧ u = 0) ∨ (wt = y.f2 ∧ u = 1) := by
        by_cases e : wt = y.f2
        · have : u = 0 ∨ u = 1 := by omega
          rcases this with h | h
          · exact Or.inr (Or.inl ⟨e, h⟩)
          · exact Or.inr (Or.inr ⟨e, h⟩)
        · exact Or.inl e
      clear hu2
      rcases hways with hw | ⟨hw, rfl⟩ | ⟨hw, rfl⟩
      · have w1 : (wt != y.f2) = true := by simpa using hw
        have w2 : (wt == y.f2) = false := by simpa using hw
        have w3 : decide (wt = y.f2) = false := decide_eq_false hw
        clear hw
        go_quiet (fail)
        obtain ⟨W2, hW2⟩ : ∃ W, W1.drewN nq = W := ⟨_, rfl⟩
        rw [hW2]
        have hb2 : Below W1.heap.size W1 W2 := by rw [← hW2]; exact pw_below_drewN (Below.refl _ _) _
        have HS2 := Lib.hid (HS1.out.below hb2)
        have HK2 := Lib.hid (HK1.out.below hb2)
        have HB2 := Lib.hid (HB1.out.trans (hb2.mono (Nat.le_trans HS1.out.hb (Nat.le_of_lt HS1.out.x))))
        have HSz2 := Lib.hid (Nat.le_trans HSz.out hb2.size)
        have HBx2 := Lib.hid (HBx1.out.below hb2)
        have HNA2 := Lib.hid (HNA1.out.below hb2)
        clear q1 t1 g1 g2 hFz m0 m2 m3 n3 hW2 hb2 HS1 HK1 HB1 HSz HBx1 HNA1
        go_wp2_with fail
        refine ⟨⟨i + 1, l', by simp, HLt.out, HS2, HGx, HNx, HK2, HB2⟩, by have := HLt.out; simp [intOf]; omega⟩
      · have w1 : (wt != y.f2) = false := by rw [hw]; simp
        have w2 : (wt == y.f2) = true := by rw [hw]; simp
        have w3 : decide (wt = y.f2) = true := decide_eq_true hw
        clear hw
        go_quiet (fail)
        obtain ⟨W2, hW2⟩ : ∃ W, W1.drewN nq = W := ⟨_, rfl⟩
        rw [hW2]
        have hb2 : Below W1.heap.size W1 W2 := by rw [← hW2]; exact pw_below_drewN (Below.refl _ _) _
        have HS2 := Lib.hid (HS1.out.below hb2)
        have HK2 := Lib.hid (HK1.out.below hb2)
        have HB2 := Lib.hid (HB1.out.trans (hb2.mono (Nat.le_trans HS1.out.hb (Nat.le_of_lt HS1.out.x))))
        have HSz2 := Lib.hid (Nat.le_trans HSz.out hb2.size)
        have HBx2 := Lib.hid (HBx1.out.below hb2)
        have HNA2 := Lib.hid (HNA1.out.below hb2)
        clear q1 t1 g1 g2 hFz m0 m2 m3 n3 hW2 hb2 HS1 HK1 HB1 HSz HBx1 HNA1
        go_wp2_with fail
        refine ⟨⟨i + 1, l', by simp, HLt.out, HS2, HGx, HNx, HK2, HB2⟩, by have := HLt.out; simp [intOf]; omega⟩
      · have w1 : (wt != y.f2) = false := by rw [hw]; simp
        have w2 : (wt == y.f2) = true := by rw [hw]; simp
        have w3 : decide (wt = y.f2) = true := decide_eq_true hw
        have HWy := Lib.hid hw
        clear hw
        go_quiet (fail)
        obtain ⟨W2, hW2⟩ : ∃ W, W1.drewN nq = W := ⟨_, rfl⟩
        rw [hW2]
        have hb2 : Below W1.heap.size W1 W2 := by rw [← hW2]; exact pw_below_drewN (Below.refl _ _) _
        have HS2 := Lib.hid (HS1.out.below hb2)
        have HK2 := Lib.hid (HK1.out.below hb2)
        have HB2 := Lib.hid (HB1.out.trans (hb2.mono (Nat.le_trans HS1.out.hb (Nat.le_of_lt HS1.out.x))))
        have HSz2 := Lib.hid (Nat.le_trans HSz.out hb2.size)
        have HBx2 := Lib.hid (HBx1.out.below hb2)
        have HNA2 := Lib.hid (HNA1.out.below hb2)
        clear q1 t1 g1 g2 hFz m0 m2 m3 n3 hW2 hb2 HS1 HK1 HB1 HSz HBx1 HNA1
        have q1 := HS2.out.k0
        rw [HNx.out] at q1
        have m0 := HBx2.out.k0
        have m3 := HBx2.out.k3
        have n3 := HNA2.out.k3
        have hFz := HS2.out.froz i (by rw [HNx.out]; exact HLt.out) 3
        rcases (show y.f0 = 8 ∨ y.f0 = 7 ∨ (y.f0 ≠ 8 ∧ y.f0 ≠ 7) by omega) with hk | hk | ⟨hk, hk2⟩
        · have e8 : (y.f0 == 8) = true := by rw [hk]; rfl
          have e7 : (y.f0 == 7) = false := by rw [hk]; rfl
          have HK8 := Lib.hid hk
          clear hk
          go_upto_region 8 with fail
          have hgX2 := (HS2.out.r.1 g rfl)
          have HgF := Lib.hid hgX2
          clear hgX2
          go_upto_region 9 with (first
            | fail
            | ((with_reducible refine gate_dst (N := 74) rfl ?_); refine Kd.R_lit (Kd.int .i64) (w0 := w) base 3 ?hg (N := 74) ?hd (xs := [(t : Int)]) (inner := [.int .i64 (t : Int)]) (ok := fun b => W2.heap.size ≤ b) (okp := fun _ => False) ?hr ?hp (fun _ hk => hk.elim) (Nat.le_refl _) HB2.out (Nat.le_trans HS2.out.hb (Nat.le_of_lt HS2.out.x)) (by simp) ?_; (case hd => rfl); (case hg => rfl); (case hr => first | (go_simp; done) | (go_simp; rfl)); (case hp => exact (Reps.one (show Kd.M (Kd.int .i64) _ _ _ (t : Int) [.int .i64 (t : Int)] from rfl) (Reps.none _ _))); intro vl W3 ho hb hg _; obtain ⟨Al, cl, hvl⟩ := Kd.R_slice ho; subst hvl; have y3 := (hg.cell_far ⟨g, i * 8 + 3, none⟩ (World.block_lt_of_cell? W2 _ n3) (fun e => by cases e)).trans n3; have yf := (hg.frozen_far ⟨g, i * 8 + 3, none⟩ (World.block_lt_of_cell? W2 _ n3) (fun e => by cases e)).trans hFz; have x0 := (hg.cell_far ⟨X, 0, none⟩ HS2.out.x (fun e => by cases e)).trans q1; have x1 := (hg.cell_far ⟨P, 0, none⟩ (World.block_lt_of_cell? W2 _ m0) (fun e => by cases e)).trans m0; have HOl := Lib.hid ho; have HBl := Lib.hid hb; have HGr := Lib.hid hg; clear ho hb hg))
          obtain ⟨hs4, hg4⟩ := (HS2.out.below (grown_below HGr.out)).ins i (by rw [HNx.out]; exact HLt.out) (.slice Al 1 cl) [(t : Int)] (Kd.R_mono HOl.out fun b hb => ⟨⟨fun e => by have := HS2.out.x; omega, HF0.out b (Nat.le_trans HSz2.out hb)⟩, fun e => by have := HS2.out.own g rfl; omega⟩)
          have hbg := grown_base (base := base) hg4 (Kd.R_base HS2.out.r g rfl) (Nat.le_trans (Nat.le_trans HS2.out.hb (Nat.le_of_lt HS2.out.x)) HGr.out.size)
          have hnP : some P ≠ some g := fun e => by injection e with e; have h1 := HNA2.out.k0; have := HBx2.out.k0; subst e; exact HPg.out rfl
          have x2 := (hg4.cell_far ⟨P, 0, none⟩ (World.block_lt_of_cell? _ _ x1) hnP).trans x1
          have HK4 := Lib.hid (Kept.of_grown hg4 (HK2.out.below (grown_below HGr.out)) (fun k hk => by cases hk; exact Or.inl (Or.inr HgF.out.2)))
          have HB4 := Lib.hid (HBl.out.trans hbg)
          have HS4 := Lib.hid hs4
          have hgl := HGx.out.delay (k := i) (tv := (t : Int)) (by rw [HNx.out]; exact HLt.out) (by rw [HY.out]; exact HK8.out) (At.nat (by rw [HNx.out]; exact HTn.out)) (by rw [wAt_nat, HWt.out, HY.out]; exact HWy.out)
          have HG4 := Lib.hid hgl
          have HN4 : Hid ((l'.set i { l'.getD i z39 with f3 := [(t : Int)] }).length = n) := by rw [List.length_set]; exact HNx
          clear hgl hbg hnP
          generalize l'.set i { l'.getD i z39 with f3 := [(t : Int)] } = l4 at *
          generalize W3.setCell { block := g, off := i * 8 + 3 } (Value.slice Al 1 cl) = W4 at *
          clear hs4 hg4 q1 m0 m3 n3 hFz y3 yf x0 x1
          go_wp2_with fail
          refine ⟨⟨i + 1, l4, by simp, HLt.out, HS4, HG4, HN4, HK4, HB4⟩, by have := HLt.out; simp [intOf]; omega⟩
        · have e8 : (y.f0 == 8) = false := by rw [hk]; rfl
          have e7 : (y.f0 == 7) = true := by rw [hk]; rfl
          have hfl := HGx.out.flip (k := i) (tv := (t : Int)) (by rw [HNx.out]; exact HLt.out) (by rw [HY.out]; exact hk) (At.nat (by rw [HNx.out]; exact HTn.out)) (by rw [wAt_nat, HWt.out, HY.out]; exact HWy.out)
          obtain ⟨hgl, hl0⟩ := hfl
          have hN4 : (l'.set i { l'.getD i z39 with f3 := [(l'.getD i z39).f3.getD 0 0, (t : Int)] }).length = n := by rw [List.length_set]; exact HNx.out
          rw [HY.out] at hl0
          have HG4 := Lib.hid hgl
          have HN4 := Lib.hid hN4
          obtain ⟨b3, o3, hA3, hc3, hb3⟩ := ints_at HBx2.out.hC 0 hl0
          rw [Nat.add_zero] at hc3
          subst hA3
          obtain ⟨a0, ha0⟩ : ∃ a, y.f3.getD 0 0 = a := ⟨_, rfl⟩
          rw [ha0] at hc3
          have HA0 := Lib.hid ha0
          have HL0 := Lib.hid hl0
          have hl3' := HL3.out
          clear hk hgl hN4 ha0
          have x0 : (W2.alloc (Obj.cells #[.int .i64 a0, .int .i64 t] 3)).cell? ⟨X, 0, none⟩ = some (.slice (some ⟨g, 0, none⟩) n c) := (World.cell?_alloc_lt W2 _ ⟨X, 0, none⟩ HS2.out.x).trans q1
          have y3 : (W2.alloc (Obj.cells #[.int .i64 a0, .int .i64 t] 3)).cell? ⟨g, i * 8 + 3, none⟩ = some (.slice (some ⟨b3, o3, none⟩) y.f3.length c3) := (World.cell?_alloc_lt W2 _ ⟨g, i * 8 + 3, none⟩ (World.block_lt_of_cell? W2 _ n3)).trans n3
          have yf : (W2.alloc (Obj.cells #[.int .i64 a0, .int .i64 t] 3)).frozen? ⟨g, i * 8 + 3, none⟩ = false := ((below_alloc (Below.refl _ _) _).frozen (p := ⟨g, i * 8 + 3, none⟩) (World.block_lt_of_cell? W2 _ n3)).trans hFz
          go_upto_region 10 with fail
          go_region
          have hba : Below W2.heap.size W2 (W2.alloc (Obj.cells #[.int .i64 a0, .int .i64 t] 3)) := below_alloc (Below.refl _ _) _
          have hbs2 : base ≤ W2.heap.size := Nat.le_trans HS2.out.hb (Nat.le_of_lt HS2.out.x)
          have hgX2 := (HS2.out.r.1 g rfl)
          obtain ⟨hs4, hg4⟩ := (HS2.out.below hba).ins i (by rw [HNx.out]; exact HLt.out) (.slice (some ⟨W2.heap.size, 0, none⟩) 2 2) [a0, (t : Int)] (Kd.R_mono (lit2 W2 base a0 t hbs2) fun b hb => ⟨⟨fun e => by have := HS2.out.x; omega, HF0.out b (Nat.le_trans HSz2.out hb)⟩, fun e => by have := HS2.out.own g rfl; omega⟩)
          have hbg := grown_base (base := base) hg4 (Kd.R_base HS2.out.r g rfl) (Nat.le_trans hbs2 hba.size)
          have hK4 := Kept.of_grown hg4 (HK2.out.below hba) (fun k hk => by cases hk; exact Or.inl (Or.inr hgX2.2))
          have hB4 := (HB2.out.trans (hba.mono hbs2)).trans hbg
          rw [HY.out, HA0.out] at HG4 HN4
          rw [HY.out] at hs4
          have HS4 := Lib.hid (hs4.below (Below.refl _ _).drew)
          have HK4 := Lib.hid hK4.drew
          have HB4 := Lib.hid (below_drew1 hB4)
          clear hba hbs2 hgX2 hs4 hg4 hbg hK4 hB4 x0 y3 yf q1 m0 m3 n3 hFz hc3
          generalize l'.set i { y with f3 := [a0, (t : Int)] } = l4 at *
          generalize World.drew _ = W4 at *
          go_wp2_with fail
          refine ⟨⟨i + 1, l4, by simp, HLt.out, HS4, HG4, HN4, HK4, HB4⟩, by have := HLt.out; simp [intOf]; omega⟩
        · have e8 : (y.f0 == 8) = false := beq_eq_false_iff_ne.2 hk
          have e7 : (y.f0 == 7) = false := beq_eq_false_iff_ne.2 hk2
          clear hk hk2
          go_wp2_with fail
          refine ⟨⟨i + 1, l', by simp, HLt.out, HS2, HGx, HNx, HK2, HB2⟩, by have := HLt.out; simp [intOf]; omega⟩
    · have hlen := HNx.out
      have hln := HN.out
      have hfin : LState wr X base F l' (some ⟨g, 0, none⟩) c B m d p ∧ GL l' ∧ l'.length = l.length ∧ Kept w wr (fun b => b = X ∨ F b) ∧ Below base w wr := ⟨HSx.out, HGx.out, by rw [hlen, hln], HKx.out, HBx.out⟩
      have HFin := Lib.hid hfin
      clear hfin hlen hln
      by_cases hlt2 : i < n
      · have hlg : ¬ i < gs.length := fun h => hlt ⟨hlt2, h⟩
        have d1 : decide (i < gs.length) = false := decide_eq_false hlg
        clear hlt
        go_wp2_with fail
        refine ⟨rfl, .tuple #[], ?_, l', rfl, HFin.out⟩
        first | rfl | simp [results, Tryd.results35, go_sem] | simp [results, Tryd.f35, go_sem]
      · clear hlt
        go_wp2_with fail
        refine ⟨rfl, .tuple #[], ?_, l', rfl, HFin.out⟩
        first | rfl | simp [results, Tryd.results35, go_sem] | simp [results, Tryd.f35, go_sem]
end Go.Proofs.YtonnmkhmhndalaaDoor
namespace Go.Proofs.YtonnmkhmhndalaaDoor
set_option linter.unusedVariables false
set_option linter.unusedSimpArgs false
open Go.RowKit Go.Proofs.YtonnmkhmhndalaaDoorW.PrintWords Go.Proofs.YtonnmkhmhndalaaDoorW.PrintLast Go.Proofs.YtonnmkhmhndalaaDoorW.PrintMore

/-- a netlist that grows, and a gate in its box -/
structure MSt (w0 W : World) (X base : Nat) (F : Nat → Prop) (l : List S39) (A : Option Addr) (c : Nat) (B : Option Addr) (m d : Nat) (G : Nat) (gy : S71) : Prop where
  s : LState W X base F l A c B m d 0
  g : GL l
  k : Kept w0 W (fun b => b = X ∨ F b)
  b : Below base w0 W
  gt : GAt W G 0 gy
  gx : ¬ (G = X ∨ F G)
  hF : ∀ b, w0.heap.size ≤ b → F b
variable {w0 W W1 : World} {X base : Nat} {F : Nat → Prop} {l : List S39} {A : Option Addr} {c : Nat} {B : Option Addr} {m d : Nat} {G : Nat} {gy : S71}
theorem MSt.at_ (h : MSt w0 W X base F l A c B m d G gy) {l' : List S39} {A' : Option Addr} {c' : Nat} {W' : World} (hs : LState W' X base F l' A' c' B m d 0) (hg : GL l') (hk : Kept W W' (fun b => b = X ∨ F b)) (hb : Below base W W') : MSt w0 W' X base F l' A' c' B m d G gy :=
  ⟨hs, hg, h.k.then_ hk (fun k hk => Or.inl hk), h.b.trans hb, ⟨cell_kept h.gt.k0 hk h.gx, cell_kept h.gt.k1 hk h.gx, cell_kept h.gt.k2 hk h.gx, cell_kept h.gt.k3 hk h.gx, cell_kept h.gt.k4 hk h.gx⟩, h.gx, h.hF⟩
theorem MSt.fF (h : MSt w0 W X base F l A c B m d G gy) : ∀ b, W.heap.size ≤ b → F b := fun b hb => h.hF b (Nat.le_trans h.k.1 hb)
theorem MSt.below (h : MSt w0 W X base F l A c B m d G gy) (hb : Below W.heap.size W W1) : MSt w0 W1 X base F l A c B m d G gy :=
  h.at_ (h.s.below hb) h.g (Kept.of_below hb _) (hb.mono (Nat.le_trans h.s.hb (Nat.le_of_lt h.s.x)))
theorem MSt.fit (h : MSt w0 W X base F l A c B m d G gy) (k : Nat) (wide : Int) (hk : k < l.length) (h1 : 1 ≤ wide) (h2 : wide ≤ 200) (hl : l.length ≤ 1000) :
    Calls Tryd.prog 32 #[.pointer (some ⟨X, 0, none⟩), .int .i64 k, .int .i64 wide] W fun e w' => ∃ (r : Nat) (l' : List S39) (A' : Option Addr) (c' : Nat), e = .returned (.int .i64 r) ∧ MSt w0 w' X base F l' A' c' B m d G gy ∧ Ext l l' ∧ l'.length ≤ l.length + 1 ∧ r < l'.length ∧ wAt l' (r : Int) = wide := by
  refine (fit_any X base F l A c B m d 0 k wide W h.s h.g hk h1 h2 h.fF hl).mono ?_
  rintro e w' ⟨r, l', A', c', he, hS, hG, hE, hL, hr, hw, hK, hB⟩
  exact ⟨r, l', A', c', he, h.at_ hS hG hK hB, hE, hL, hr, hw⟩
theorem MSt.add (h : MSt w0 W X base F l A c B m d G gy) {x : S39} {A3 : Option Addr} {c3 : Nat} (hb : Below W.heap.size W W1) (h3 : Kd.R (Kd.int .i64) 3 W1 base (fun b => W.heap.size ≤ b) (.slice A3 x.f3.length c3) x.f3) (hx : GNode l l.length x) (hl : l.length ≤ 1000) :
    Calls Tryd.prog 30 #[.pointer (some ⟨X, 0, none⟩), ndV x A3 c3] W1 fun e w' => e = .returned (.int .i64 l.length) ∧ ∃ A' c', MSt w0 w' X base F (l ++ [x]) A' c' B m d G gy := by
  refine (adds_lit h.s hb h3 h.fF hl).mono ?_
  rintro e w' ⟨he, A', c', hS, hK, hB⟩
  exact ⟨he, A', c', h.at_ hS (h.g.push hx) hK hB⟩
theorem MSt.row (h : MSt w0 W X base F l A c B m d G gy) : base ≤ W.heap.size := Nat.le_trans h.s.hb (Nat.le_of_lt h.s.x)
end Go.Proofs.YtonnmkhmhndalaaDoor
