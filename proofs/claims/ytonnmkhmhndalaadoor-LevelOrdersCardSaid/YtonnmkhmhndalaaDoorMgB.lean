/- Netlists, plainly, and in memory; what a node hangs on. Levels: the memory in which they are reckoned. Levels: the first loop, plainly: who hangs on each, what is ready. -/
import Derived.Test.YtonnmkhmhndalaaDoorLb
import Derived.Test.YtonnmkhmhndalaaDoorMgA
import Derived.IntWalk
import Derived.Deep.RegionWith
import Derived.BigRegion
namespace Go.Proofs.YtonnmkhmhndalaaDoor
set_option linter.unusedVariables false
set_option linter.unusedSimpArgs false
open Go.RowKit Go.Proofs.YtonnmkhmhndalaaDoorW.PrintWords Go.Proofs.YtonnmkhmhndalaaDoorW.PrintLast Go.Proofs.YtonnmkhmhndalaaDoorW.PrintMore

/-- a netlist, plainly -/
structure NL where
  nd : List S39
  nt : List Int
  pt : Int
def nAt (x : NL) (k : Nat) : S39 := x.nd.getD k z39
/-- what a node hangs on -/
def hg (x : S39) : List Int := if x.f0 = 8 then [] else if x.f0 = 7 then x.f3.take 1 else x.f3
/-- what they hang on, by numbers -/
def hs (l : List S39) (k : Nat) : List Nat := (hg (l.getD k z39)).map Int.toNat

/-- a netlist in memory, read -/
structure NIn (w : World) (x : NL) (A : Option Addr) (c : Nat) (B : Option Addr) (d : Nat) : Prop where
  h0 : Kd.C k39 w A x.nd.length x.nd
  h1 : Kd.C (Kd.int .i64) w B x.nt.length x.nt
  l0 : x.nd.length ≤ c
  l1 : x.nt.length ≤ d
  z : ∀ s ∈ x.nd, s.f4.size ≤ 9223372036854775807
  b0 : ∀ s ∈ x.nd, s.f3.length * 8 ≤ 140737488355328
  b1 : x.nt.length * 8 ≤ 140737488355328
theorem NIn.below {w w' : World} {x : NL} {A : Option Addr} {c : Nat} {B : Option Addr} {d : Nat} (h : NIn w x A c B d) (hb : Below w.heap.size w w') : NIn w' x A c B d :=
  ⟨Kd.C_below h.h0 hb, Kd.C_below h.h1 hb, h.l0, h.l1, h.z, h.b0, h.b1⟩
abbrev nlV (x : NL) (A : Option Addr) (c : Nat) (B : Option Addr) (d : Nat) : Value := .agg #[.slice A x.nd.length c, .slice B x.nt.length d, .int .i64 x.pt]
abbrev ndV (x : S39) (A : Option Addr) (c : Nat) : Value := .agg #[.int .i64 x.f0, .int .i64 x.f1, .int .i64 x.f2, .slice A x.f3.length c, .string x.f4, .int .i64 x.f5, .int .i64 x.f6, .int .i64 x.f7]

theorem ints_at {w : World} {A : Option Addr} {l : List Int} (h : Kd.C (Kd.int .i64) w A l.length l) (i : Nat) (hi : i < l.length) : ∃ b o, A = some ⟨b, o, none⟩ ∧ w.cell? ⟨b, o + i, none⟩ = some (.int .i64 (l.getD i 0)) ∧ b < w.heap.size := by
  obtain ⟨ad, e, hc⟩ := Kd.at_int h i (by omega) (by omega)
  obtain ⟨ad2, e2, hc2⟩ := Kd.at_int h 0 (by omega) (by omega)
  obtain rfl : ad = ad2 := Option.some.inj (e.symm.trans e2)
  obtain ⟨b, o, sp⟩ := ad
  have hs := World.cell?_spot hc2
  have : sp = none := by simpa [Addr.add] using hs
  subst this
  rw [Int.toNat_natCast, add_plain] at hc
  exact ⟨b, o, e, hc, World.block_lt_of_cell? w _ hc⟩
theorem nodes_at {w : World} {A : Option Addr} {l : List S39} (h : Kd.C k39 w A l.length l) (i : Nat) (hi : i < l.length) : ∃ b o A3 c3, A = some ⟨b, o, none⟩ ∧ w.cell? ⟨b, o + i * 8, none⟩ = some (.int .i64 (l.getD i z39).f0) ∧ w.cell? ⟨b, o + i * 8 + 1, none⟩ = some (.int .i64 (l.getD i z39).f1) ∧ w.cell? ⟨b, o + i * 8 + 2, none⟩ = some (.int .i64 (l.getD i z39).f2) ∧ w.cell? ⟨b, o + i * 8 + 3, none⟩ = some (.slice A3 (l.getD i z39).f3.length c3) ∧ w.cell? ⟨b, o + i * 8 + 4, none⟩ = some (.string (l.getD i z39).f4) ∧ w.cell? ⟨b, o + i * 8 + 5, none⟩ = some (.int .i64 (l.getD i z39).f5) ∧ w.cell? ⟨b, o + i * 8 + 6, none⟩ = some (.int .i64 (l.getD i z39).f6) ∧ w.cell? ⟨b, o + i * 8 + 7, none⟩ = some (.int .i64 (l.getD i z39).f7) ∧ (l.getD i z39).f3.length ≤ c3 ∧ (Kd.int .i64).C w A3 (l.getD i z39).f3.length (l.getD i z39).f3 ∧ b < w.heap.size := by
  obtain ⟨ad, A3, c3, e, h0, h1, h2, h3, h4, h5, h6, h7, hl, hC⟩ := at_T39 h i (by omega) (by omega)
  obtain ⟨ad2, _, _, e2, hc2, _⟩ := at_T39 h 0 (by omega) (by omega)
  obtain rfl : ad = ad2 := Option.some.inj (e.symm.trans e2)
  obtain ⟨b, o, sp⟩ := ad
  have hs := World.cell?_spot hc2
  have : sp = none := by simpa [Addr.add] using hs
  subst this
  rw [Int.toNat_natCast, add_plain] at h0 h1 h2 h3 h4 h5 h6 h7
  exact ⟨b, o, A3, c3, e, h0, h1, h2, h3, h4, h5, h6, h7, hl, hC, World.block_lt_of_cell? w _ h0⟩

/-- a node of a row, in all worlds that come of this one -/
structure NAt (W : World) (b q : Nat) (y : S39) (A3 : Option Addr) (c3 : Nat) : Prop where
  k0 : W.cell? ⟨b, q, none⟩ = some (.int .i64 y.f0)
  k1 : W.cell? ⟨b, q + 1, none⟩ = some (.int .i64 y.f1)
  k2 : W.cell? ⟨b, q + 2, none⟩ = some (.int .i64 y.f2)
  k3 : W.cell? ⟨b, q + 3, none⟩ = some (.slice A3 y.f3.length c3)
  k4 : W.cell? ⟨b, q + 4, none⟩ = some (.string y.f4)
  k5 : W.cell? ⟨b, q + 5, none⟩ = some (.int .i64 y.f5)
  k6 : W.cell? ⟨b, q + 6, none⟩ = some (.int .i64 y.f6)
  k7 : W.cell? ⟨b, q + 7, none⟩ = some (.int .i64 y.f7)
  hC : Kd.C (Kd.int .i64) W A3 y.f3.length y.f3
theorem nodes_in {w : World} {A : Option Addr} {l : List S39} (h : Kd.C k39 w A l.length l) (i : Nat) (hi : i < l.length) : ∃ b o A3 c3, A = some ⟨b, o, none⟩ ∧ (l.getD i z39).f3.length ≤ c3 ∧ b < w.heap.size ∧ ∀ W, Below w.heap.size w W → NAt W b (o + i * 8) (l.getD i z39) A3 c3 := by
  obtain ⟨b, o, A3, c3, e, h0, h1, h2, h3, h4, h5, h6, h7, hl, hC, hb⟩ := nodes_at h i hi
  have key : ∀ (W : World) (q : Nat), Below w.heap.size w W → W.cell? ⟨b, q, none⟩ = w.cell? ⟨b, q, none⟩ := fun W q hW => hW.cell (p := ⟨b, q, none⟩) hb
  exact ⟨b, o, A3, c3, e, hl, hb, fun W hW => ⟨(key W _ hW).trans h0, (key W _ hW).trans h1, (key W _ hW).trans h2, (key W _ hW).trans h3, (key W _ hW).trans h4, (key W _ hW).trans h5, (key W _ hW).trans h6, (key W _ hW).trans h7, Kd.C_below hC hW⟩⟩
/-- a box with a node in it -/
theorem box_node {W W' : World} {y : S39} {A3 : Option Addr} {c3 : Nat} (hC : Kd.C (Kd.int .i64) W A3 y.f3.length y.f3) (h : W.alloc (.cells #[.int .i64 y.f0, .int .i64 y.f1, .int .i64 y.f2, .slice A3 y.f3.length c3, .string y.f4, .int .i64 y.f5, .int .i64 y.f6, .int .i64 y.f7] 39) = W') : NAt W' W.heap.size 0 y A3 c3 ∧ Below W.heap.size W W' := by
  have hb : Below W.heap.size W W' := by rw [← h]; exact below_alloc (Below.refl _ _) _
  refine ⟨⟨?_, ?_, ?_, ?_, ?_, ?_, ?_, ?_, Kd.C_below hC hb⟩, hb⟩ <;> (rw [← h]; simp [go_sem])
theorem NAt.below {W W' : World} {b q : Nat} {y : S39} {A3 : Option Addr} {c3 : Nat} (h : NAt W b q y A3 c3) (hb : Below W.heap.size W W') : NAt W' b q y A3 c3 := by
  have hlt := World.block_lt_of_cell? W _ h.k0
  have key : ∀ q : Nat, W'.cell? ⟨b, q, none⟩ = W.cell? ⟨b, q, none⟩ := fun q => hb.cell (p := ⟨b, q, none⟩) hlt
  exact ⟨(key _).trans h.k0, (key _).trans h.k1, (key _).trans h.k2, (key _).trans h.k3, (key _).trans h.k4, (key _).trans h.k5, (key _).trans h.k6, (key _).trans h.k7, Kd.C_below h.hC hb⟩
/-- a box with a netlist in it -/
structure LBx (W : World) (P : Nat) (n m : Nat) (pt : Int) (A : Option Addr) (c : Nat) (B : Option Addr) (d : Nat) : Prop where
  k0 : W.cell? ⟨P, 0, none⟩ = some (.slice A n c)
  k1 : W.cell? ⟨P, 1, none⟩ = some (.slice B m d)
  k2 : W.cell? ⟨P, 2, none⟩ = some (.int .i64 pt)
theorem box_list {W W' : World} {n m : Nat} {pt : Int} {A : Option Addr} {c : Nat} {B : Option Addr} {d : Nat} (h : W.alloc (.cells #[.slice A n c, .slice B m d, .int .i64 pt] 25) = W') : LBx W' W.heap.size n m pt A c B d ∧ Below W.heap.size W W' ∧ W'.heap.size = W.heap.size + 1 := by
  refine ⟨⟨?_, ?_, ?_⟩, by rw [← h]; exact below_alloc (Below.refl _ _) _, by rw [← h]; simp⟩ <;> (rw [← h]; simp [go_sem])
theorem LBx.belowB {W W' : World} {P n m B' : Nat} {pt : Int} {A : Option Addr} {c : Nat} {B : Option Addr} {d : Nat} (h : LBx W P n m pt A c B d) (hb : Below B' W W') (hP : P < B') : LBx W' P n m pt A c B d := by
  have key : ∀ q : Nat, W'.cell? ⟨P, q, none⟩ = W.cell? ⟨P, q, none⟩ := fun q => hb.cell (p := ⟨P, q, none⟩) hP
  exact ⟨(key _).trans h.k0, (key _).trans h.k1, (key _).trans h.k2⟩
theorem LBx.below {W W' : World} {P n m : Nat} {pt : Int} {A : Option Addr} {c : Nat} {B : Option Addr} {d : Nat} (h : LBx W P n m pt A c B d) (hb : Below W.heap.size W W') : LBx W' P n m pt A c B d := h.belowB hb (World.block_lt_of_cell? W _ h.k0)

set_option maxHeartbeats 1000000 in
theorem hangs_any (x : S39) (A : Option Addr) (c : Nat) (w : World) (h : Kd.C (Kd.int .i64) w A x.f3.length x.f3) (hc : x.f3.length ≤ c) (h7 : x.f0 = 7 → 1 ≤ x.f3.length) :
    Calls Tryd.prog 29 #[ndV x A c] w fun e w' => ∃ A' c', e = .returned (.slice A' (hg x).length c') ∧ (hg x).length ≤ c' ∧ (∀ W, Kd.C (Kd.int .i64) W A x.f3.length x.f3 → Kd.C (Kd.int .i64) W A' (hg x).length (hg x)) ∧ Below w.heap.size w w' := by
  have HC := Lib.hid h
  have HL := Lib.hid hc
  have hb : Below w.heap.size w (w.alloc (.cells #[.int .i64 x.f0, .int .i64 x.f1, .int .i64 x.f2, .slice A x.f3.length c, .string x.f4, .int .i64 x.f5, .int .i64 x.f6, .int .i64 x.f7] 39)) := below_alloc (Below.refl _ _) _
  have HB := Lib.hid hb
  clear h hc hb
  by_cases h8 : x.f0 = 8
  · have e : hg x = [] := by unfold hg; rw [if_pos h8]
    have hk8 : (x.f0 == 8) = true := beq_iff_eq.mpr h8
    have E := Lib.hid e
    clear h8 h7 e
    go_enter Tryd.func29, Tryd.ntmps29
    go_wp2_with fail
    go_ret
    rw [E.out]
    exact ⟨none, 0, rfl, Nat.le_refl _, fun _ _ => Kd.C_nil _ _, HB.out⟩
  · have hk8 : (x.f0 == 8) = false := beq_eq_false_iff_ne.mpr h8
    by_cases h77 : x.f0 = 7
    · have e : hg x = x.f3.take 1 := by unfold hg; rw [if_neg h8, if_pos h77]
      have hk7 : (x.f0 == 7) = true := beq_iff_eq.mpr h77
      have h1 := h7 h77
      have hlc := HL.out
      have E := Lib.hid e
      clear h8 h7 e h77
      go_enter Tryd.func29, Tryd.ntmps29
      go_wp2_with fail
      go_ret
      rw [E.out]
      have el : (x.f3.take 1).length = 1 := by rw [List.length_take]; omega
      rw [el]
      refine ⟨A, c, rfl, by omega, fun W hW => ?_, HB.out⟩
      have := Kd.C_take (m := 1) hW h1
      rw [el] at this
      exact this
    · have e : hg x = x.f3 := by unfold hg; rw [if_neg h8, if_neg h77]
      have hk7 : (x.f0 == 7) = false := beq_eq_false_iff_ne.mpr h77
      have E := Lib.hid e
      clear h8 h7 e h77
      go_enter Tryd.func29, Tryd.ntmps29
      go_wp2_with fail
      go_ret
      rw [E.out]
      exact ⟨A, c, rfl, HL.out, fun _ hW => hW, HB.out⟩
set_option maxHeartbeats 1000000 in
theorem hangsR_any (x : S39) (A : Option Addr) (c : Nat) (w : World) (h : Kd.C (Kd.int .i64) w A x.f3.length x.f3) (hc : x.f3.length ≤ c) (h7 : x.f0 = 7 → 1 ≤ x.f3.length) :
    Calls Tryd.prog 19 #[ndV x A c] w fun e w' => ∃ A' c', e = .returned (.slice A' (hg x).length c') ∧ (hg x).length ≤ c' ∧ (∀ W, Kd.C (Kd.int .i64) W A x.f3.length x.f3 → Kd.C (Kd.int .i64) W A' (hg x).length (hg x)) ∧ Below w.heap.size w w' := by
  have HC := Lib.hid h
  have HL := Lib.hid hc
  have hb : Below w.heap.size w (w.alloc (.cells #[.int .i64 x.f0, .int .i64 x.f1, .int .i64 x.f2, .slice A x.f3.length c, .string x.f4, .int .i64 x.f5, .int .i64 x.f6, .int .i64 x.f7] 39)) := below_alloc (Below.refl _ _) _
  have HB := Lib.hid hb
  clear h hc hb
  by_cases h8 : x.f0 = 8
  · have e : hg x = [] := by unfold hg; rw [if_pos h8]
    have hk8 : (x.f0 == 8) = true := beq_iff_eq.mpr h8
    have E := Lib.hid e
    clear h8 h7 e
    go_enter Tryd.func19, Tryd.ntmps19
    go_wp2_with fail
    go_ret
    rw [E.out]
    exact ⟨none, 0, rfl, Nat.le_refl _, fun _ _ => Kd.C_nil _ _, HB.out⟩
  · have hk8 : (x.f0 == 8) = false := beq_eq_false_iff_ne.mpr h8
    by_cases h77 : x.f0 = 7
    · have e : hg x = x.f3.take 1 := by unfold hg; rw [if_neg h8, if_pos h77]
      have hk7 : (x.f0 == 7) = true := beq_iff_eq.mpr h77
      have h1 := h7 h77
      have hlc := HL.out
      have E := Lib.hid e
      clear h8 h7 e h77
      go_enter Tryd.func19, Tryd.ntmps19
      go_wp2_with fail
      go_ret
      rw [E.out]
      have el : (x.f3.take 1).length = 1 := by rw [List.length_take]; omega
      rw [el]
      refine ⟨A, c, rfl, by omega, fun W hW => ?_, HB.out⟩
      have := Kd.C_take (m := 1) hW h1
      rw [el] at this
      exact this
    · have e : hg x = x.f3 := by unfold hg; rw [if_neg h8, if_neg h77]
      have hk7 : (x.f0 == 7) = false := beq_eq_false_iff_ne.mpr h77
      have E := Lib.hid e
      clear h8 h7 e h77
      go_enter Tryd.func19, Tryd.ntmps19
      go_wp2_with fail
      go_ret
      rw [E.out]
      exact ⟨A, c, rfl, HL.out, fun _ hW => hW, HB.out⟩
end Go.Proofs.YtonnmkhmhndalaaDoor
namespace Go.Proofs.YtonnmkhmhndalaaDoor
set_option linter.unusedVariables false
set_option linter.unusedSimpArgs false
open Go.RowKit Go.Proofs.YtonnmkhmhndalaaDoorW.PrintWords Go.Proofs.YtonnmkhmhndalaaDoorW.PrintLast Go.Proofs.YtonnmkhmhndalaaDoorW.PrintMore

/-- cells of a block, each one value -/
structure Cl {β : Type} (enc : β → Value) (W : World) (b n : Nat) (f : Nat → β) : Prop where
  c : ∀ j, j < n → W.cell? ⟨b, j, none⟩ = some (enc (f j))
  f : ∀ j, j < n → W.frozen? ⟨b, j, none⟩ = false
  s : b < W.heap.size
theorem Cl.move {β : Type} {enc : β → Value} {W W' : World} {b n : Nat} {f : Nat → β} (h : Cl enc W b n f) (hb : W'.heap[b]? = W.heap[b]?) (hs : W.heap.size ≤ W'.heap.size) : Cl enc W' b n f :=
  ⟨fun j hj => (World.cell?_of_block (w := W) hb).trans (h.c j hj), fun j hj => (World.frozen?_of_block (w := W) hb).trans (h.f j hj), Nat.lt_of_lt_of_le h.s hs⟩
theorem Cl.below {β : Type} {enc : β → Value} {W W' : World} {b n B : Nat} {f : Nat → β} (h : Cl enc W b n f) (hb : Below B W W') (hB : b < B) : Cl enc W' b n f := h.move (hb.block b hB) hb.size
theorem Cl.far {β : Type} {enc : β → Value} {W : World} {b n : Nat} {f : Nat → β} (h : Cl enc W b n f) {g j : Nat} (hg : b ≠ g) (v : Value) : Cl enc (W.setCell ⟨g, j, none⟩ v) b n f := h.move (Below.heap_setCell W _ v b hg) (by simp)
theorem cell_ne {W : World} {g a b : Nat} {v : Value} (h : a ≠ b) : (W.setCell ⟨g, b, none⟩ v).cell? ⟨g, a, none⟩ = W.cell? ⟨g, a, none⟩ := by
  simp [go_sem, h, Ne.symm h]
theorem cell_eq {W : World} {g a : Nat} {v u : Value} (h : W.cell? ⟨g, a, none⟩ = some u) : (W.setCell ⟨g, a, none⟩ v).cell? ⟨g, a, none⟩ = some v := by
  simp [go_sem, h]
theorem froz_set {W : World} {g a b : Nat} {v : Value} : (W.setCell ⟨g, b, none⟩ v).frozen? ⟨g, a, none⟩ = W.frozen? ⟨g, a, none⟩ := by
  simp [go_sem]
theorem below_set2 {w W : World} {B g j : Nat} {v : Value} (hB : B ≤ g) (h : Below B w W) : Below B w (W.setCell ⟨g, j, none⟩ v) := h.setCell hB _
theorem Cl.set {β : Type} {enc : β → Value} {W : World} {b n : Nat} {f : Nat → β} (h : Cl enc W b n f) (k : Nat) (v : β) : Cl enc (W.setCell ⟨b, k, none⟩ (enc v)) b n (upd f k v) := by
  refine ⟨fun j hj => ?_, fun j hj => froz_set.trans (h.f j hj), by simpa using h.s⟩
  by_cases e : j = k
  · subst e; rw [upd_same]; exact cell_eq (h.c j hj)
  · rw [upd_ne _ _ e, cell_ne e]; exact h.c j hj
theorem Cl.size {β : Type} {enc : β → Value} {W : World} {b n : Nat} {f g : Nat → β} (h : Cl enc W b n f) (e : ∀ j, j < n → f j = g j) : Cl enc W b n g := ⟨fun j hj => by rw [← e j hj]; exact h.c j hj, h.f, h.s⟩
abbrev eI (k : Nat) : Value := .int .i64 (k : Int)
def ints (l : List Nat) : List Int := l.map (fun k : Nat => (k : Int))
theorem ints_len (l : List Nat) : (ints l).length = l.length := List.length_map _
theorem ints_snoc (l : List Nat) (k : Nat) : ints (l ++ [k]) = ints l ++ [(k : Int)] := by unfold ints; rw [List.map_append]; rfl
theorem ints_take (l : List Nat) (k : Nat) : (ints l).take k = ints (l.take k) := by unfold ints; rw [List.map_take]
theorem ints_getD (l : List Nat) (i : Nat) (hi : i < l.length) : (ints l).getD i 0 = ((l.getD i 0 : Nat) : Int) := by
  unfold ints
  rw [List.getD_eq_getElem?_getD, List.getD_eq_getElem?_getD, List.getElem?_map, List.getElem?_eq_getElem hi]
  rfl
theorem kI_mkM (w : World) (base : Nat) (ok : Nat → Prop) (v : Int) : (Kd.int .i64).M w base ok v [.int .i64 v] := rfl
theorem R_off2 {α : Type} {d : Kd α} {e base b o : Nat} {ok : Nat → Prop} {w : World} {v u : Value} {xs : List α} (h : d.R e w base ok v xs) (hb : b < base) : d.R e (w.setCell ⟨b, o, none⟩ u) base ok v xs :=
  Kd.R_mono (Kd.R_far (Kd.R_bound h) (fun k hk => by have := hk.2.1; show k ≠ b; omega) u) (fun _ hk => hk.1)

theorem make23 (n : Nat) (hn : n ≤ 1000000) (W : World) : ∃ W', (Instr.makeSlice 23 (.int .i64 n) (.int .i64 n)).run Tryd.prog W = .ok (.slice (some ⟨W.heap.size, 0, none⟩) n n) W' ∧ Below W.heap.size W W' ∧ W'.heap.size = W.heap.size + 1 ∧ Cl eI W' W.heap.size n (fun _ => 0) := by
  obtain ⟨i0, hi, hzz⟩ := Option.map_eq_some_iff.1 info3
  simp only [Prod.mk.injEq] at hzz
  obtain ⟨hz0, hz1, hz2⟩ := hzz
  have h := run_make (P := Tryd.prog) W 23 3 i0 (.int .i64 0) Tryd.underlying23 hi hz0 .i64 .i64 (n : Int) (n : Int) (by omega) (by omega) (by rw [hz2]; omega) (by omega)
  rw [Int.toNat_natCast, hz1, Nat.mul_one] at h
  refine ⟨_, h, below_alloc (Below.refl _ _) _, by simp, ?_, ?_, by simp⟩
  · intro j hj
    simp [go_sem, madeCells, hj]
    rw [Nat.mod_one]
    rfl
  · intro j _
    simp [go_sem]
theorem infoB : (Tryd.prog.info? 4).map (fun i => (i.zero, i.size, i.bytes)) = some (some (.bool false), 1, 1) := by kernel_rfl
theorem make59 (n : Nat) (hn : n ≤ 1000000) (W : World) : ∃ W', (Instr.makeSlice 59 (.int .i64 n) (.int .i64 n)).run Tryd.prog W = .ok (.slice (some ⟨W.heap.size, 0, none⟩) n n) W' ∧ Below W.heap.size W W' ∧ W'.heap.size = W.heap.size + 1 ∧ Cl Value.bool W' W.heap.size n (fun _ => false) := by
  obtain ⟨i0, hi, hzz⟩ := Option.map_eq_some_iff.1 infoB
  simp only [Prod.mk.injEq] at hzz
  obtain ⟨hz0, hz1, hz2⟩ := hzz
  have h := run_make (P := Tryd.prog) W 59 4 i0 (.bool false) Tryd.underlying59 hi hz0 .i64 .i64 (n : Int) (n : Int) (by omega) (by omega) (by rw [hz2]; omega) (by omega)
  rw [Int.toNat_natCast, hz1, Nat.mul_one] at h
  refine ⟨_, h, below_alloc (Below.refl _ _) _, by simp, ?_, ?_, by simp⟩
  · intro j hj
    simp [go_sem, madeCells, hj]
    rw [Nat.mod_one]
    rfl
  · intro j _
    simp [go_sem]
theorem make44 (n : Nat) (hn : n ≤ 1000000) (W : World) : ∃ W', (Instr.makeSlice 44 (.int .i64 n) (.int .i64 n)).run Tryd.prog W = .ok (.slice (some ⟨W.heap.size, 0, none⟩) n n) W' ∧ Below W.heap.size W W' ∧ W'.heap.size = W.heap.size + 1 ∧ Cl (fun v : Value => v) W' W.heap.size n (fun _ => .slice none 0 0) := by
  obtain ⟨i0, hi, hzz⟩ := Option.map_eq_some_iff.1 info23
  simp only [Prod.mk.injEq] at hzz
  obtain ⟨hz0, hz1, hz2⟩ := hzz
  have h := run_make (P := Tryd.prog) W 44 23 i0 (.slice none 0 0) Tryd.underlying44 hi hz0 .i64 .i64 (n : Int) (n : Int) (by omega) (by omega) (by rw [hz2]; omega) (by omega)
  rw [Int.toNat_natCast, hz1, Nat.mul_one] at h
  refine ⟨_, h, below_alloc (Below.refl _ _) _, by simp, ?_, ?_, by simp⟩
  · intro j hj
    simp [go_sem, madeCells, hj]
    rw [Nat.mod_one]
    rfl
  · intro j _
    simp [go_sem]

/-- the memory in which levels are reckoned: four rows of n from the block D on, the users' own rows, those that are ready -/
structure LMem (wx : World) (D base n : Nat) (out left : Nat → Nat) (done : Nat → Bool) (vs : Nat → Value) (us : Nat → List Nat) (rv : Value) (rd : List Nat) : Prop where
  o : Cl eI wx D n out
  l : Cl eI wx (D + 1) n left
  d : Cl Value.bool wx (D + 2) n done
  p : Cl (fun v : Value => v) wx (D + 3) n vs
  u : ∀ j, j < n → Kd.R (Kd.int .i64) 3 wx base (fun b => (∀ i, i < n → i ≠ j → some b ≠ (vs i).ownBlock) ∧ some b ≠ rv.ownBlock) (vs j) (ints (us j))
  r : Kd.R (Kd.int .i64) 3 wx base (fun b => ∀ i, i < n → some b ≠ (vs i).ownBlock) rv (ints rd)
  s : D + 3 < base
  t : base ≤ wx.heap.size
section
variable {wx : World} {D base n : Nat} {out left : Nat → Nat} {done : Nat → Bool} {vs : Nat → Value} {us : Nat → List Nat} {rv : Value} {rd : List Nat}
theorem LMem.below {w' : World} (h : LMem wx D base n out left done vs us rv rd) (hb : Below wx.heap.size wx w') : LMem w' D base n out left done vs us rv rd := by
  have := h.s
  have := h.t
  exact ⟨h.o.below hb (by omega), h.l.below hb (by omega), h.d.below hb (by omega), h.p.below hb (by omega), fun j hj => Kd.R_below (h.u j hj) hb, Kd.R_below h.r hb, h.s, Nat.le_trans h.t hb.size⟩
theorem LMem.setO (h : LMem wx D base n out left done vs us rv rd) (k v : Nat) : LMem (wx.setCell ⟨D, k, none⟩ (.int .i64 (v : Int))) D base n (upd out k v) left done vs us rv rd := by
  have := h.s
  exact ⟨h.o.set k v, h.l.far (by omega) _, h.d.far (by omega) _, h.p.far (by omega) _, fun j hj => R_off2 (h.u j hj) (by omega), R_off2 h.r (by omega), h.s, by simpa using h.t⟩
theorem LMem.setL (h : LMem wx D base n out left done vs us rv rd) (k v : Nat) : LMem (wx.setCell ⟨D + 1, k, none⟩ (.int .i64 (v : Int))) D base n out (upd left k v) done vs us rv rd := by
  have := h.s
  exact ⟨h.o.far (by omega) _, h.l.set k v, h.d.far (by omega) _, h.p.far (by omega) _, fun j hj => R_off2 (h.u j hj) (by omega), R_off2 h.r (by omega), h.s, by simpa using h.t⟩
theorem LMem.setD (h : LMem wx D base n out left done vs us rv rd) (k : Nat) (v : Bool) : LMem (wx.setCell ⟨D + 2, k, none⟩ (.bool v)) D base n out left (upd done k v) vs us rv rd := by
  have := h.s
  exact ⟨h.o.far (by omega) _, h.l.far (by omega) _, h.d.set k v, h.p.far (by omega) _, fun j hj => R_off2 (h.u j hj) (by omega), R_off2 h.r (by omega), h.s, by simpa using h.t⟩
theorem LMem.freshU (h : LMem wx D base n out left done vs us rv rd) (k : Nat) : ∀ b, wx.heap.size ≤ b → (∀ i, i < n → i ≠ k → some b ≠ (vs i).ownBlock) ∧ some b ≠ rv.ownBlock := by
  intro b hb
  refine ⟨fun i hi _ e => ?_, fun e => ?_⟩
  · have := Kd.R_lt (h.u i hi) b e.symm; omega
  · have := Kd.R_lt h.r b e.symm; omega
theorem LMem.freshR (h : LMem wx D base n out left done vs us rv rd) : ∀ b, wx.heap.size ≤ b → ∀ i, i < n → some b ≠ (vs i).ownBlock := by
  intro b hb i hi e
  have := Kd.R_lt (h.u i hi) b e.symm
  omega
theorem LMem.appU {w9 : World} {k p : Nat} {v1 : Value} (h : LMem wx D base n out left done vs us rv rd) (hk : k < n)
    (ho : Kd.R (Kd.int .i64) 3 w9 base (fun b => (∀ i, i < n → i ≠ k → some b ≠ (vs i).ownBlock) ∧ some b ≠ rv.ownBlock) v1 (ints (us k) ++ [(p : Int)])) (hb : Below base wx w9) (hg : wx.grownBy w9 (vs k).ownBlock) (hat : v1.ownBlock = (vs k).ownBlock ∨ ∃ b, v1.ownBlock = some b ∧ wx.heap.size ≤ b) :
    LMem (w9.setCell ⟨D + 3, k, none⟩ v1) D base n out left done (upd vs k v1) (upd us k (us k ++ [p])) rv rd := by
  have hs := h.s
  have ht := h.t
  refine ⟨(h.o.below hb (by omega)).far (by omega) _, (h.l.below hb (by omega)).far (by omega) _, (h.d.below hb (by omega)).far (by omega) _, (h.p.below hb (by omega)).set k v1, fun j hj => ?_, ?_, hs, by have := hb.size; simp; omega⟩
  · refine R_off2 ?_ (by omega)
    by_cases e : j = k
    · subst e
      rw [upd_same, upd_same, ints_snoc]
      refine Kd.R_mono ho (fun b hb' => ⟨fun i hi hne => ?_, hb'.2⟩)
      rw [upd_ne _ _ hne]
      exact hb'.1 i hi hne
    · rw [upd_ne _ _ e, upd_ne _ _ e]
      have h1 : Kd.R (Kd.int .i64) 3 wx base (fun b => ((∀ i, i < n → i ≠ j → i ≠ k → some b ≠ (vs i).ownBlock) ∧ some b ≠ rv.ownBlock) ∧ some b ≠ (vs k).ownBlock) (vs j) (ints (us j)) :=
        Kd.R_mono (h.u j hj) (fun b hb' => ⟨⟨fun i hi hne _ => hb'.1 i hi hne, hb'.2⟩, hb'.1 k hk (fun e' => e e'.symm)⟩)
      refine Kd.R_mono (Kd.R_after h1 hg hat) (fun b hb' => ⟨fun i hi hne => ?_, hb'.1.2⟩)
      by_cases e2 : i = k
      · subst e2; rw [upd_same]; exact hb'.2
      · rw [upd_ne _ _ e2]; exact hb'.1.1 i hi hne e2
  · refine R_off2 ?_ (by omega)
    have h1 : Kd.R (Kd.int .i64) 3 wx base (fun b => (∀ i, i < n → i ≠ k → some b ≠ (vs i).ownBlock) ∧ some b ≠ (vs k).ownBlock) rv (ints rd) :=
      Kd.R_mono h.r (fun b hb' => ⟨fun i hi _ => hb' i hi, hb' k hk⟩)
    refine Kd.R_mono (Kd.R_after h1 hg hat) (fun b hb' i hi => ?_)
    by_cases e2 : i = k
    · subst e2; rw [upd_same]; exact hb'.2
    · rw [upd_ne _ _ e2]; exact hb'.1 i hi e2
theorem LMem.appR {w9 : World} {p : Nat} {v1 : Value} (h : LMem wx D base n out left done vs us rv rd)
    (ho : Kd.R (Kd.int .i64) 3 w9 base (fun b => ∀ i, i < n → some b ≠ (vs i).ownBlock) v1 (ints rd ++ [(p : Int)])) (hb : Below base wx w9) (hg : wx.grownBy w9 rv.ownBlock) (hat : v1.ownBlock = rv.ownBlock ∨ ∃ b, v1.ownBlock = some b ∧ wx.heap.size ≤ b) :
    LMem w9 D base n out left done vs us v1 (rd ++ [p]) := by
  have hs := h.s
  have ht := h.t
  refine ⟨h.o.below hb (by omega), h.l.below hb (by omega), h.d.below hb (by omega), h.p.below hb (by omega), fun j hj => Kd.R_after (h.u j hj) hg hat, by rw [ints_snoc]; exact ho, hs, Nat.le_trans ht hb.size⟩
theorem LMem.popR {A : Option Addr} {m c : Nat} (h : LMem wx D base n out left done vs us (.slice A m c) rd) (q : Nat) (hq : q ≤ rd.length) : LMem wx D base n out left done vs us (.slice A q c) (rd.take q) := by
  refine ⟨h.o, h.l, h.d, h.p, ?_, ?_, h.s, h.t⟩
  · intro j hj
    refine Kd.R_mono (h.u j hj) (fun b hb => ⟨hb.1, ?_⟩)
    have e : (Value.slice A q c).ownBlock = (Value.slice A m c).ownBlock := by cases A <;> rfl
    rw [e]
    exact hb.2
  · rw [← ints_take]
    exact Kd.R_take h.r (by rw [ints_len]; exact hq)
end
end Go.Proofs.YtonnmkhmhndalaaDoor
namespace Go.Proofs.YtonnmkhmhndalaaDoor
set_option linter.unusedVariables false
set_option linter.unusedSimpArgs false

/-- all that levels ask of nodes -/
structure LOk (l : List S39) : Prop where
  n : l.length ≤ 4096
  f : ∀ k, k < l.length → (l.getD k z39).f0 = 7 → 1 ≤ (l.getD k z39).f3.length
  le : ∀ k, k < l.length → (hg (l.getD k z39)).length ≤ 256
  at_ : ∀ k, k < l.length → ∀ h ∈ hg (l.getD k z39), 0 ≤ h ∧ h < l.length
theorem LOk.hsl {l : List S39} (h : LOk l) : ∀ k, k < l.length → ∀ u ∈ hs l k, u < l.length := by
  intro k hk u hu
  obtain ⟨i, hi, rfl⟩ := List.mem_map.1 hu
  have := h.at_ k hk i hi
  omega
theorem hs_len (l : List S39) (k : Nat) : (hs l k).length = (hg (l.getD k z39)).length := List.length_map _
theorem LOk.cast {l : List S39} (h : LOk l) (k : Nat) (hk : k < l.length) : ints (hs l k) = hg (l.getD k z39) := by
  unfold ints Go.Proofs.YtonnmkhmhndalaaDoor.hs
  rw [List.map_map]
  conv => rhs; rw [← List.map_id (hg (l.getD k z39))]
  refine List.map_congr_left fun i hi => ?_
  have := h.at_ k hk i hi
  show ((i.toNat : Nat) : Int) = i
  omega
/-- behind k nodes, and p of what the next one hangs on -/
structure L1 (hs : Nat → List Nat) (k : Nat) (p : List Nat) (us : Nat → List Nat) : Prop where
  c : ∀ i u, (us i).count u = if u < k then (hs u).count i else if u = k then p.count i else 0
  m : ∀ i, ∀ u ∈ us i, u ≤ k ∧ (u = k → p ≠ [])
  l : ∀ i, (us i).length ≤ k * 256 + p.length
theorem L1.start (hs : Nat → List Nat) : L1 hs 0 [] (fun _ => []) :=
  ⟨fun i u => by simp, fun _ _ h => (by cases h), fun _ => Nat.zero_le _⟩
theorem L1.step {hs : Nat → List Nat} {k : Nat} {p : List Nat} {us : Nat → List Nat} (h : L1 hs k p us) (a : Nat) : L1 hs k (p ++ [a]) (upd us a (us a ++ [k])) := by
  refine ⟨fun i u => ?_, fun i u hu => ?_, fun i => ?_⟩
  · have hc := h.c i u
    have e : (p ++ [a]).count i = p.count i + if i = a then 1 else 0 := by
      rw [List.count_append, List.count_cons]
      by_cases e : a = i
      · subst e; simp
      · have : (a == i) = false := by simpa using e
        rw [this, if_neg (show ¬ i = a from fun e' => e e'.symm)]
        simp
    rw [e]
    by_cases e2 : i = a
    · subst e2
      rw [upd_same, List.count_append, hc, List.count_cons, if_pos rfl]
      by_cases e3 : u < k
      · rw [if_pos e3, if_pos e3]
        have : (k == u) = false := by simpa using (show k ≠ u by omega)
        rw [this]
        simp
      · rw [if_neg e3, if_neg e3]
        by_cases e4 : u = k
        · subst e4; simp
        · have : (k == u) = false := by simpa using fun e' => e4 e'.symm
          rw [if_neg e4, if_neg e4, this]
          simp
    · rw [upd_ne _ _ e2, hc, if_neg e2]
      rfl
  · by_cases e2 : i = a
    · subst e2
      rw [upd_same] at hu
      rcases List.mem_append.1 hu with h1 | h1
      · exact ⟨(h.m i u h1).1, fun _ => by simp⟩
      · rw [List.mem_singleton.1 h1]; exact ⟨Nat.le_refl _, fun _ => by simp⟩
    · rw [upd_ne _ _ e2] at hu
      exact ⟨(h.m i u hu).1, fun _ => by simp⟩
  · have := h.l i
    rw [List.length_append, List.length_singleton]
    by_cases e2 : i = a
    · subst e2
      rw [upd_same, List.length_append, List.length_singleton]
      omega
    · rw [upd_ne _ _ e2]
      omega
theorem L1.next {hs : Nat → List Nat} {k : Nat} {us : Nat → List Nat} (h : L1 hs k (hs k) us) (hl : (hs k).length ≤ 256) : L1 hs (k + 1) [] us := by
  refine ⟨fun i u => ?_, fun i u hu => ?_, fun i => ?_⟩
  · rw [h.c i u]
    by_cases e : u < k
    · rw [if_pos e, if_pos (by omega)]
    · rw [if_neg e]
      by_cases e2 : u = k
      · subst e2; rw [if_pos rfl, if_pos (by omega)]
      · rw [if_neg e2, if_neg (by omega)]
        simp
  · have := (h.m i u hu).1
    exact ⟨by omega, fun e => by omega⟩
  · refine Nat.le_trans (h.l i) ?_
    rw [Nat.succ_mul]
    exact Nat.le_trans (Nat.add_le_add_left hl _) (Nat.le_add_right _ _)
theorem L1.users {hs : Nat → List Nat} {n : Nat} {us : Nat → List Nat} (h : L1 hs n [] us) (hl : ∀ k, k < n → ∀ u ∈ hs k, u < n) : Users n hs us := by
  refine ⟨hl, fun k hk u hu => ?_, fun k u hk hu => ?_⟩
  · have := h.m k u hu
    rcases Nat.lt_or_ge u n with h1 | h1
    · exact h1
    · exact absurd rfl (this.2 (by omega))
  · rw [h.c k u, if_pos hu]
/-- the lengths of what each hangs on, behind k nodes -/
def leftN (hs : Nat → List Nat) (k : Nat) : Nat → Nat := fun j => if j < k then (hs j).length else 0
theorem leftN_succ (hs : Nat → List Nat) (k : Nat) : upd (leftN hs k) k (hs k).length = leftN hs (k + 1) := by
  funext j
  unfold upd leftN
  by_cases e : j = k
  · subst e; rw [if_pos rfl, if_pos (by omega)]
  · rw [if_neg e]
    by_cases e2 : j < k
    · rw [if_pos e2, if_pos (by omega)]
    · rw [if_neg e2, if_neg (by omega)]
def rdN (hs : Nat → List Nat) (k : Nat) : List Nat := (List.range k).filter (fun u => (hs u).length == 0)
theorem rdN_succ (hs : Nat → List Nat) (k : Nat) : rdN hs (k + 1) = if (hs k).length = 0 then rdN hs k ++ [k] else rdN hs k := by
  unfold rdN
  rw [List.range_succ, List.filter_append]
  by_cases e : (hs k).length = 0
  · rw [if_pos e]
    congr 1
    rw [List.filter_cons_of_pos (by simpa using e)]
    rfl
  · rw [if_neg e, List.filter_cons_of_neg (by simpa using e)]
    simp
theorem rdN_len (hs : Nat → List Nat) (k : Nat) : (rdN hs k).length ≤ k := by
  have := List.length_filter_le (fun u => (hs u).length == 0) (List.range k)
  rwa [List.length_range] at this
theorem L1.inv {hs : Nat → List Nat} {n : Nat} : LInv n hs ⟨fun _ => 0, leftN hs n, fun _ => false, rdN hs n, 0⟩ := by
  refine ⟨List.nodup_range.filter _, ?_, ?_, ?_, ?_, ?_, ?_, ?_, ?_⟩
  · intro u hu
    have := List.mem_filter.1 hu
    have h1 := List.mem_range.1 this.1
    refine ⟨h1, rfl, ?_⟩
    show leftN hs n u = 0
    unfold leftN
    rw [if_pos h1]
    simpa using this.2
  · intro u hu _ h0
    have h0' : leftN hs n u = 0 := h0
    unfold leftN at h0'
    rw [if_pos hu] at h0'
    exact List.mem_filter.2 ⟨List.mem_range.2 hu, by simpa using h0'⟩
  · intro u hu
    show leftN hs n u = (hs u).countP (fun _ => !false)
    unfold leftN
    rw [if_pos hu]
    have : (hs u).countP (fun _ => !false) = (hs u).length := List.countP_eq_length.2 (fun _ _ => rfl)
    rw [this]
  · intro u _ h; cases h
  · intro u _; exact ⟨Nat.le_refl _, fun h => (by cases h)⟩
  · intro u _ h _ hd; cases hd
  · intro u _; exact Or.inl rfl
  · show 0 = (List.range n).countP (fun _ => false)
    rw [List.countP_eq_zero.2]
    intro a _ h
    cases h
end Go.Proofs.YtonnmkhmhndalaaDoor
