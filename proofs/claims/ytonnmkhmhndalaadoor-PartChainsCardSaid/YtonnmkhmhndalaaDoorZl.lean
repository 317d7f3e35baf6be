/- Sorting: numbers in a block, what they are compared by, exchanged in place. Sorting: ranges exchanged and turned in place, walked. Sorting: sorting by insertion in place, walked. Sorting: symmetric merging in place, walked. Sorting: symmetric merging in place, walked: one element on the right. -/
import Derived.Test.YtonnmkhmhndalaaDoorZk
import Derived.Test.YtonnmkhmhndalaaDoorZc
import Derived.Deep.RegionWith
import Derived.BigRegion
section
namespace Go.Proofs.YtonnmkhmhndalaaDoor
set_option linter.unusedVariables false
set_option linter.unusedSimpArgs false
open Go.RowKit Go.Proofs.YtonnmkhmhndalaaDoorW.PrintWords Go.Proofs.YtonnmkhmhndalaaDoorW.PrintLast Go.Proofs.YtonnmkhmhndalaaDoorW.PrintMore
structure SEnv where
  S : Nat
  mb : Nat
  N : Nat
  f : Nat → Option Int
def SEnv.F (v : SEnv) (k : Nat) : Int := (v.f k).getD 0
def cmpI (x y : Int) : Int := if x < y then -1 else if y < x then 1 else 0
def aheadI (v : SEnv) (x y : Nat) : Int := cmpI (v.F y) (v.F x)
def aheadB (v : SEnv) (x y : Nat) : Bool := decide (v.F y < v.F x)
theorem aheadI_lt (v : SEnv) (a b : Nat) : decide (aheadI v a b < 0) = aheadB v a b := by
  unfold aheadI aheadB cmpI
  by_cases h1 : v.F b < v.F a
  · rw [if_pos h1, decide_eq_true h1]; rfl
  · rw [if_neg h1, decide_eq_false h1]
    split <;> rfl
theorem ahead_ord (v : SEnv) : OrdL (aheadB v) := by
  refine ⟨fun a b h => ?_, fun a b c h1 h2 => ?_⟩
  · unfold aheadB at *
    simp at *
    omega
  · unfold aheadB at *
    simp at *
    omega
theorem nan_any (x : Int) (w : World) : Calls Tryd.prog 51 #[.int .i64 x] w fun e w' => e = .returned (.bool false) ∧ w = w' := by
  go_enter Tryd.func51, Tryd.ntmps51
  go_wp2_with fail
  go_ret
  exact ⟨by simp, rfl⟩
theorem cmp_any (x y : Int) (w : World) : Calls Tryd.prog 39 #[.int .i64 x, .int .i64 y] w fun e w' => e = .returned (.int .i64 (cmpI x y)) ∧ w = w' := by
  have hn := fun z W => nan_any z W
  have HN := Lib.hid hn
  clear hn
  by_cases h1 : x < y
  · have e : cmpI x y = -1 := if_pos h1
    rw [e]
    clear e
    go_enter Tryd.func39, Tryd.ntmps39
    go_wp2_with (first | fail | (go_at_call 51; refine (HN.out _ _).mono ?_; rintro e w' ⟨rfl, rfl⟩))
    go_ret
    exact ⟨rfl, rfl⟩
  · by_cases h2 : y < x
    · have e : cmpI x y = 1 := by unfold cmpI; rw [if_neg h1, if_pos h2]
      have h1' : y ≤ x := by omega
      rw [e]
      clear e h1
      go_enter Tryd.func39, Tryd.ntmps39
      go_wp2_with (first | fail | (go_at_call 51; refine (HN.out _ _).mono ?_; rintro e w' ⟨rfl, rfl⟩))
      go_ret
      exact ⟨rfl, rfl⟩
    · have e : cmpI x y = 0 := by unfold cmpI; rw [if_neg h1, if_neg h2]
      have h1' : y ≤ x := by omega
      have h2' : x ≤ y := by omega
      rw [e]
      clear e h1 h2
      go_enter Tryd.func39, Tryd.ntmps39
      go_wp2_with (first | fail | (go_at_call 51; refine (HN.out _ _).mono ?_; rintro e w' ⟨rfl, rfl⟩))
      go_ret
      exact ⟨rfl, rfl⟩
structure EnvAt (v : SEnv) (W : World) : Prop where
  c : W.cell? ⟨v.S, 0, none⟩ = some (.map (some v.mb))
  m : MI W v.mb v.N v.f
theorem EnvAt.below {v : SEnv} {W W' : World} (h : EnvAt v W) (hb : Below W.heap.size W W') : EnvAt v W' :=
  ⟨(hb.cell (p := ⟨v.S, 0, none⟩) (World.block_lt_of_cell? W _ h.c)).trans h.c, h.m.below hb⟩
theorem EnvAt.set {v : SEnv} {W : World} {g k : Nat} {u : Value} (h : EnvAt v W) (h1 : v.S ≠ g) (h2 : v.mb ≠ g) : EnvAt v (W.setCell ⟨g, k, none⟩ u) :=
  ⟨(World.cell?_of_block (w := W) (Below.heap_setCell W _ u v.S h1)).trans h.c, h.m.set h2 u⟩
abbrev fA (v : SEnv) : Value := .func (.func 38) #[] #[.pointer (some ⟨v.S, 0, none⟩)]
theorem ahead_any (v : SEnv) (x y : Nat) (w : World) (hx : x ≤ 1000000) (hy : y ≤ 1000000) (h : EnvAt v w) :
    Calls Tryd.prog 38 #[.int .i64 x, .int .i64 y, .pointer (some ⟨v.S, 0, none⟩)] w fun e w' => e = .returned (.int .i64 (aheadI v x y)) ∧ w = w' := by
  have c := h.c
  have l1 := h.m.look x (by omega)
  have l2 := h.m.look y (by omega)
  have hc := fun W => cmp_any (v.F y) (v.F x) W
  have HC := Lib.hid hc
  have e : aheadI v x y = cmpI (v.F y) (v.F x) := rfl
  rw [e]
  have e1 : (v.f x).getD 0 = v.F x := rfl
  have e2 : (v.f y).getD 0 = v.F y := rfl
  rw [e1] at l1
  rw [e2] at l2
  generalize v.F x = p at *
  generalize v.F y = q at *
  clear e e1 e2 hc h
  go_enter Tryd.func38, Tryd.ntmps38
  go_wp2_with (first | fail | (go_at_call 39; refine (HC.out _).mono ?_; rintro e w' ⟨rfl, rfl⟩))
  go_ret
  exact ⟨rfl, rfl⟩
structure Rw (v : SEnv) (W : World) (g : Nat) (l : List Nat) : Prop where
  c : ∀ j, j < l.length → W.cell? ⟨g, j, none⟩ = some (.int .i64 (l.getD j 0 : Nat))
  f : ∀ j, j < l.length → W.frozen? ⟨g, j, none⟩ = false
  s : g < W.heap.size
  e : EnvAt v W
  n1 : v.S ≠ g
  n2 : v.mb ≠ g
  b : ∀ j, j < l.length → l.getD j 0 ≤ 1000000
theorem Rw.below {v : SEnv} {W W' : World} {g : Nat} {l : List Nat} (h : Rw v W g l) (hb : Below W.heap.size W W') : Rw v W' g l :=
  ⟨fun j hj => (hb.cell (p := ⟨g, j, none⟩) h.s).trans (h.c j hj), fun j hj => (hb.frozen (p := ⟨g, j, none⟩) h.s).trans (h.f j hj), Nat.lt_of_lt_of_le h.s hb.size, h.e.below hb, h.n1, h.n2, h.b⟩
theorem getD_set_eq (l : List Nat) (i : Nat) (c : Nat) (h : i < l.length) : (l.set i c).getD i 0 = c := by
  rw [List.getD_eq_getElem?_getD, List.getElem?_set_self h]
  rfl
theorem getD_set_ne (l : List Nat) (i j : Nat) (c : Nat) (h : i ≠ j) : (l.set i c).getD j 0 = l.getD j 0 := by
  rw [List.getD_eq_getElem?_getD, List.getElem?_set_ne h, ← List.getD_eq_getElem?_getD]
theorem Rw.set {v : SEnv} {W : World} {g i : Nat} {l : List Nat} (h : Rw v W g l) (hi : i < l.length) (c : Nat) (hc : c ≤ 1000000) : Rw v (W.setCell ⟨g, i, none⟩ (.int .i64 (c : Nat))) g (l.set i c) := by
  have hl : (l.set i c).length = l.length := List.length_set
  refine ⟨fun j hj => ?_, fun j hj => ?_, by simpa using h.s, h.e.set h.n1 h.n2, h.n1, h.n2, fun j hj => ?_⟩ <;> rw [hl] at hj
  · by_cases e : i = j
    · subst e
      rw [getD_set_eq l i c hi]; exact cell_eq (h.c i hi)
    · rw [getD_set_ne l i j c e, cell_ne (by omega)]; exact h.c j hj
  · rw [froz_set]; exact h.f j hj
  · by_cases e : i = j
    · subst e; rw [getD_set_eq l i c hi]; exact hc
    · rw [getD_set_ne l i j c e]; exact h.b j hj
theorem Rw.sw {v : SEnv} {W : World} {g i j : Nat} {l : List Nat} (h : Rw v W g l) (hi : i < l.length) (hj : j < l.length) : Rw v ((W.setCell ⟨g, i, none⟩ (.int .i64 (l.getD j 0 : Nat))).setCell ⟨g, j, none⟩ (.int .i64 (l.getD i 0 : Nat))) g (sw 0 l i j) := by
  unfold Proofs.YtonnmkhmhndalaaDoor.sw
  exact (h.set hi (l.getD j 0) (h.b j hj)).set (by rw [List.length_set]; exact hj) (l.getD i 0) (h.b i hi)
theorem ahead_row {v : SEnv} {W : World} {g : Nat} {l : List Nat} (h : Rw v W g l) {i j : Nat} (hi : i < l.length) (hj : j < l.length) (r : BelowBy W) :
    Calls Tryd.prog 38 #[.int .i64 (l.getD i 0 : Nat), .int .i64 (l.getD j 0 : Nat), .pointer (some ⟨v.S, 0, none⟩)] r.W fun e w' => e = .returned (.int .i64 (aheadI v (l.getD i 0) (l.getD j 0))) ∧ ∃ q : BelowBy W, w' = q.W :=
  (ahead_any v _ _ r.W (h.b i hi) (h.b j hj) (h.e.below r.h)).mono fun e w' hh => ⟨hh.1, r, hh.2.symm⟩
end Go.Proofs.YtonnmkhmhndalaaDoor
end
section
namespace Go.Proofs.YtonnmkhmhndalaaDoor
set_option linter.unusedVariables false
set_option linter.unusedSimpArgs false
open Go.RowKit Go.Proofs.YtonnmkhmhndalaaDoorW.PrintWords Go.Proofs.YtonnmkhmhndalaaDoorW.PrintLast Go.Proofs.YtonnmkhmhndalaaDoorW.PrintMore
def RwP (ev : SEnv) (B g : Nat) (l' : List Nat) (w : World) (e : Ending) (w' : World) : Prop := e = .returned (.tuple #[]) ∧ Rw ev w' g l' ∧ Below B w w'
set_option maxRecDepth 100000 in
set_option maxHeartbeats 4000000 in
theorem swapRange_any (ev : SEnv) (B g cap a b n : Nat) (l : List Nat) (w : World) (h : Rw ev w g l) (hB : B ≤ g) (ha : a + n ≤ l.length) (hb : b + n ≤ l.length) (hab : a + n ≤ b) (hl : l.length ≤ 4398046511104) :
    Calls Tryd.prog 67 #[.slice (some ⟨g, 0, none⟩) l.length cap, .int .i64 a, .int .i64 b, .int .i64 n, fA ev] w (RwP ev B g (swapR 0 l a b n) w) := by
  have HR := Lib.hid h
  clear h
  go_enter Tryd.func67, Tryd.ntmps67
  go_wp2_with fail
  go_loopw [10] (fun v10 wx => ∃ i : Nat, v10 = .int .i64 i ∧ i ≤ n ∧ Hid (Rw ev wx g (swapR 0 l a b i)) ∧ Hid (Below B w wx)) (fun v10 _ => n - (intOf v10).toNat)
  case atStart => exact ⟨0, rfl, Nat.zero_le _, HR, Lib.hid (Below.refl _ _)⟩
  case round =>
    obtain ⟨i, rfl, hi, HRx, HBx⟩ := hrel
    by_cases hlt : i < n
    · obtain ⟨p, hp⟩ : ∃ p, a + i = p := ⟨_, rfl⟩
      obtain ⟨q, hq⟩ : ∃ q, b + i = q := ⟨_, rfl⟩
      have hcl := swapR_length 0 l a b i
      have hsu : swapR 0 l a b (i + 1) = sw 0 (swapR 0 l a b i) p q := by rw [← hp, ← hq]; rfl
      generalize swapR 0 l a b i = cur at *
      have hpl : p < cur.length := by omega
      have hql : q < cur.length := by omega
      have hpI : (p : Int) < (l.length : Int) := by omega
      have hqI : (q : Int) < (l.length : Int) := by omega
      have hcp : (a : Int) + (i : Int) = (p : Int) := by omega
      have hcq : (b : Int) + (i : Int) = (q : Int) := by omega
      have d0 : ¬ q = p := by omega
      have d1 : ¬ p = q := by omega
      have hww : IntKind.i64.wrap (p : Int) = (p : Int) := IntWalk.i64_in _ (by omega)
      have hww2 : IntKind.i64.wrap (q : Int) = (q : Int) := IntWalk.i64_in _ (by omega)
      have hw1 : IntKind.i64.wrap ((a : Int) + (i : Int)) = (p : Int) := by rw [hcp]; exact hww
      have hw2 : IntKind.i64.wrap ((b : Int) + (i : Int)) = (q : Int) := by rw [hcq]; exact hww2
      have p0 := HRx.out.c p hpl
      have q0 := HRx.out.c q hql
      have e0 := HRx.out.f p hpl
      have g0 := HRx.out.f q hql
      have HSw := Lib.hid (HRx.out.sw hpl hql)
      obtain ⟨cp, hcpE⟩ : ∃ cp, cur.getD p 0 = cp := ⟨_, rfl⟩
      obtain ⟨cq, hcqE⟩ : ∃ cq, cur.getD q 0 = cq := ⟨_, rfl⟩
      rw [hcpE] at p0 HSw
      rw [hcqE] at q0 HSw
      have hib : (i : Int) < 4398046511104 := by omega
      have HSu := Lib.hid hsu
      have HLt := Lib.hid hlt
      clear hsu hcpE hcqE hcl hcp hcq hp hq hww hww2
      go_upto_region 3 with fail
      go_region
      clear p0 q0 e0 g0 hw1 hw2 d0 d1 hi hlt
      go_wp2_with fail
      refine ⟨⟨i + 1, by simp, HLt.out, Lib.hid ?_, Lib.hid (below_set2 hB (below_set2 hB HBx.out)).drew⟩, by have := HLt.out; simp [intOf]; omega⟩
      rw [HSu.out]
      exact HSw.out.below (Below.refl _ _).drew
    · obtain rfl : i = n := by omega
      go_wp2_with fail
      go_end0
      exact ⟨rfl, HRx.out, HBx.out⟩
theorem RotI.len {cur tgt : List Nat} {m i j : Nat} (h : RotI cur tgt m i j) : m + j ≤ cur.length ∧ i ≤ m := by
  obtain ⟨P, U, V, S, rfl, rfl, hu, hv, hp⟩ := h
  simp only [List.length_append]
  omega
set_option maxRecDepth 100000 in
set_option maxHeartbeats 4000000 in
theorem rotate_any (ev : SEnv) (B g cap a m b : Nat) (l : List Nat) (w : World) (h : Rw ev w g l) (hB : B ≤ g) (ham : a < m) (hmb : m < b) (hb : b ≤ l.length) (hl : l.length ≤ 4398046511104) :
    Calls Tryd.prog 59 #[.slice (some ⟨g, 0, none⟩) l.length cap, .int .i64 a, .int .i64 m, .int .i64 b, fA ev] w (RwP ev B g (rotL l a m b) w) := by
  have HR := Lib.hid h
  have HI := Lib.hid (RotI.start l (Nat.le_of_lt ham) (Nat.le_of_lt hmb) hb)
  generalize rotL l a m b = tgt at *
  obtain ⟨i0, hi0⟩ : ∃ i0, m - a = i0 := ⟨_, rfl⟩
  obtain ⟨j0, hj0⟩ : ∃ j0, b - m = j0 := ⟨_, rfl⟩
  rw [hi0, hj0] at HI
  have ei : (m : Int) - (a : Int) = (i0 : Int) := by omega
  have ej : (b : Int) - (m : Int) = (j0 : Int) := by omega
  have hi1 : 0 < i0 := by omega
  have hj1 : 0 < j0 := by omega
  clear h
  go_enter Tryd.func59, Tryd.ntmps59
  go_upto_region 2 with fail
  clear ei ej hi0 hj0
  go_loopw [10, 11] (fun v10 v11 wx => ∃ (i j : Nat) (cur : List Nat), v10 = .int .i64 i ∧ v11 = .int .i64 j ∧ 0 < i ∧ 0 < j ∧ cur.length = l.length ∧ Hid (RotI cur tgt m i j) ∧ Hid (Rw ev wx g cur) ∧ Hid (Below B w wx)) (fun v10 v11 _ => (intOf v10).toNat + (intOf v11).toNat)
  case atStart => exact ⟨i0, j0, l, rfl, rfl, hi1, hj1, rfl, HI, HR, Lib.hid (Below.refl _ _)⟩
  case round =>
    obtain ⟨i, j, cur, rfl, rfl, hi, hj, hcl, HIx, HRx, HBx⟩ := hrel
    have hlen := HIx.out.len
    obtain ⟨p, hp⟩ : ∃ p, m - i = p := ⟨_, rfl⟩
    have ep : (m : Int) - (i : Int) = (p : Int) := by omega
    have hib : (i : Int) ≤ 4398046511104 := by omega
    have hjb : (j : Int) ≤ 4398046511104 := by omega
    have hmb2 : (m : Int) ≤ 4398046511104 := by omega
    rcases Nat.lt_trichotomy j i with hlt | hlt | hlt
    · have hc := fun W (hW : Rw ev W g cur) => swapRange_any ev B g cap p m j cur W hW hB (by omega) hlen.1 (by omega) (by omega)
      rw [hcl] at hc
      have HC := Lib.hid hc
      have HN := Lib.hid (HIx.out.more 0 hlt)
      have hcl2 := swapR_length 0 cur p m j
      obtain ⟨i2, hi2⟩ : ∃ i2, i - j = i2 := ⟨_, rfl⟩
      have e2 : (i : Int) - (j : Int) = (i2 : Int) := by omega
      rw [hp, hi2] at HN
      have hne : ¬ (i : Int) = (j : Int) := by omega
      have hgt : decide ((j : Int) < (i : Int)) = true := decide_eq_true (by omega)
      clear hlen
      go_wp2_with (first | fail | (go_at_call 67; refine (HC.out _ HRx.out).mono ?_; rintro e w' ⟨rfl, hR, hb9⟩; have HR9 := Lib.hid hR; have HB9 := Lib.hid (HBx.out.trans hb9); clear hR hb9))
      refine ⟨⟨i2, j, _, rfl, rfl, by omega, hj, hcl2.trans hcl, HN, HR9, HB9⟩, by simp [intOf]; omega⟩
    · obtain rfl : j = i := hlt
      have hc := fun W (hW : Rw ev W g cur) => swapRange_any ev B g cap p m j cur W hW hB (by omega) hlen.1 (by omega) (by omega)
      rw [hcl] at hc
      have HC := Lib.hid hc
      have HN := Lib.hid (HIx.out.last 0)
      rw [hp] at HN
      clear hlen
      go_wp2_with (first | fail | (go_at_call 67; refine (HC.out _ HRx.out).mono ?_; rintro e w' ⟨rfl, hR, hb9⟩; have HR9 := Lib.hid hR; have HB9 := Lib.hid (HBx.out.trans hb9); clear hR hb9))
      go_end0
      exact ⟨rfl, by rw [← HN.out]; exact HR9.out, HB9.out⟩
    · obtain ⟨q, hq⟩ : ∃ q, m + j - i = q := ⟨_, rfl⟩
      have eq1 : (m : Int) + (j : Int) - (i : Int) = (q : Int) := by omega
      have hc := fun W (hW : Rw ev W g cur) => swapRange_any ev B g cap p q i cur W hW hB (by omega) (by omega) (by omega) (by omega)
      rw [hcl] at hc
      have HC := Lib.hid hc
      have HN := Lib.hid (HIx.out.less 0 hlt)
      have hcl2 := swapR_length 0 cur p q i
      obtain ⟨j2, hj2⟩ : ∃ j2, j - i = j2 := ⟨_, rfl⟩
      have e2 : (j : Int) - (i : Int) = (j2 : Int) := by omega
      rw [hp, hq, hj2] at HN
      have hne : ¬ (i : Int) = (j : Int) := by omega
      have hgt : decide ((j : Int) < (i : Int)) = false := decide_eq_false (by omega)
      clear hlen
      go_wp2_with (first | fail | (go_at_call 67; refine (HC.out _ HRx.out).mono ?_; rintro e w' ⟨rfl, hR, hb9⟩; have HR9 := Lib.hid hR; have HB9 := Lib.hid (HBx.out.trans hb9); clear hR hb9))
      refine ⟨⟨i, j2, _, rfl, rfl, hi, by omega, hcl2.trans hcl, HN, HR9, HB9⟩, by simp [intOf]; omega⟩
end Go.Proofs.YtonnmkhmhndalaaDoor
end
section
namespace Go.Proofs.YtonnmkhmhndalaaDoor
set_option linter.unusedVariables false
set_option linter.unusedSimpArgs false
open Go.RowKit Go.Proofs.YtonnmkhmhndalaaDoorW.PrintWords Go.Proofs.YtonnmkhmhndalaaDoorW.PrintLast Go.Proofs.YtonnmkhmhndalaaDoorW.PrintMore
attribute [local irreducible] wpQuiet
def RwE (ev : SEnv) (B g : Nat) (l : List Nat) (R : List Nat → Prop) (w : World) (e : Ending) (w' : World) : Prop := ∃ l', e = .returned (.tuple #[]) ∧ l'.length = l.length ∧ R l' ∧ Rw ev w' g l' ∧ Below B w w'
set_option maxRecDepth 100000 in
set_option maxHeartbeats 4000000 in
theorem insSort_any (ev : SEnv) (B g cap a b : Nat) (l : List Nat) (w : World) (h : Rw ev w g l) (hB : B ≤ g) (hab : a ≤ b) (hb : b ≤ l.length) (hl : l.length ≤ 4398046511104) :
    Calls Tryd.prog 55 #[.slice (some ⟨g, 0, none⟩) l.length cap, .int .i64 a, .int .i64 b, fA ev] w (RwE ev B g l (InsR (aheadB ev) 0 a b l) w) := by
  have HR := Lib.hid h
  clear h
  go_enter Tryd.func55, Tryd.ntmps55
  go_upto_region 1 with fail
  go_loopw [8] (fun v8 wx => ∃ (i : Nat) (cur : List Nat), v8 = .int .i64 i ∧ a + 1 ≤ i ∧ (i ≤ b ∨ i = a + 1) ∧ cur.length = l.length ∧ Hid (InsTo (aheadB ev) 0 a l i cur) ∧ Hid (Rw ev wx g cur) ∧ Hid (Below B w wx)) (fun v8 _ => b - (intOf v8).toNat)
  case atStart => exact ⟨a + 1, l, rfl, Nat.le_refl _, Or.inr rfl, rfl, Lib.hid InsTo.base, HR, Lib.hid (Below.refl _ _)⟩
  case round =>
    obtain ⟨i, cur, rfl, hi1, hi2, hcl, HIx, HRx, HBx⟩ := hrel
    by_cases hlt : i < b
    · go_upto_region 4 with fail
      go_loopw [9] (fun v9 wx => ∃ n : Nat, v9 = .int .i64 ((i - n : Nat) : Int) ∧ a + n ≤ i ∧ Hid (∀ k, k < n → (aheadB ev) (cur.getD i 0) (cur.getD (i - 1 - k) 0) = true) ∧ Hid (Rw ev wx g (dnS 0 cur i n)) ∧ Hid (Below B w wx)) (fun v9 _ => (intOf v9).toNat)
      case atStart => exact ⟨0, rfl, by omega, Lib.hid (fun k hk => absurd hk (Nat.not_lt_zero k)), HRx, HBx⟩
      case round =>
        obtain ⟨n, rfl, hn, HK, HRy, HBy⟩ := hrel
        obtain ⟨j, hj⟩ : ∃ j, i - n = j := ⟨_, rfl⟩
        rw [hj]
        by_cases hja : a < j
        · have hg : decide ((a : Int) < (j : Int)) = true := decide_eq_true (by omega)
          obtain ⟨jm, hjm⟩ : ∃ jm, j = jm + 1 := ⟨j - 1, by omega⟩
          have h1 := dnS_at 0 cur i (by omega) n (by omega)
          have h2 := dnS_low 0 cur i n jm (by omega) (by omega)
          rw [hj] at h1
          have hdl := dnS_length 0 cur i n
          have hpl : j < (dnS 0 cur i n).length := by omega
          have hql : jm < (dnS 0 cur i n).length := by omega
          have p0 := HRy.out.c j hpl
          have q0 := HRy.out.c jm hql
          rw [h1] at p0 
          rw [h2] at q0 
          have hjI : (j : Int) < (l.length : Int) := by omega
          have hqI : (jm : Int) < (l.length : Int) := by omega
          have ej : (j : Int) - 1 = (jm : Int) := by omega
          have hww : IntKind.i64.wrap (jm : Int) = (jm : Int) := IntWalk.i64_in _ (by omega)
          have hw1 : IntKind.i64.wrap ((j : Int) - 1) = (jm : Int) := by rw [ej]; exact hww
          obtain ⟨cp, hcpE⟩ : ∃ cp, cur.getD i 0 = cp := ⟨_, rfl⟩
          obtain ⟨cq, hcqE⟩ : ∃ cq, cur.getD jm 0 = cq := ⟨_, rfl⟩
          rw [hcpE] at p0 
          rw [hcqE] at q0 
          have hcmp := fun r => ahead_row HRy.out hpl hql r
          rw [h1, h2, hcpE, hcqE] at hcmp
          have hord := aheadI_lt ev cp cq
          generalize aheadI ev cp cq = o at hcmp hord
          have HCm := Lib.hid hcmp
          have HOr := Lib.hid hord
          have HJm := Lib.hid hjm
          have HCp := Lib.hid hcpE
          have HCq := Lib.hid hcqE
          have HD1 := Lib.hid h1
          have HD2 := Lib.hid h2
          clear hcmp hord hww hjm ej h1 h2 hcpE hcqE
          go_upto_region 4 with fail
          have g0 : ∀ q : BelowBy wr, q.W.cell? ⟨g, j, none⟩ = some (.int .i64 (cp : Nat)) := fun q => q.cell p0
          have g3 : ∀ q : BelowBy wr, q.W.cell? ⟨g, jm, none⟩ = some (.int .i64 (cq : Nat)) := fun q => q.cell q0
          have hg' : decide ((a : Int) < (j : Int)) = true := hg
          have hg2 : decide ((j : Int) > (a : Int)) = true := hg
          cases hab2 : (aheadB ev) cp cq
          · have ho : decide (o < 0) = false := HOr.out.trans hab2
            refine region_below (by kernel_rfl) (by kernel_rfl) ?_
            repeat (quiet_step (with_reducible first | exact HCm.out _ | fail))
            refine wpQuiet_nil ?_
            rintro _ ⟨r, rfl⟩
            have HN := Lib.hid (InsTo.step HIx.out ⟨n, hn, rfl, HK.out, Or.inr (by rw [show i - n - 1 = jm from by have := HJm.out; omega, HCp.out, HCq.out]; exact hab2)⟩)
            have HRr := Lib.hid (HRy.out.below r.h)
            have HBr := Lib.hid (HBy.out.trans (r.h.mono (Nat.le_trans hB (Nat.le_of_lt HRy.out.s))))
            clear g0 g3 p0 q0 hg hg' hg2 hab2 ho hw1
            go_wp2_with fail
            refine ⟨⟨i + 1, _, by simp, by omega, Or.inl hlt, hdl.trans hcl, HN, HRr, HBr⟩, by simp [intOf]; omega⟩
          · have ho : decide (o < 0) = true := HOr.out.trans hab2
            refine region_below (by kernel_rfl) (by kernel_rfl) ?_
            repeat (quiet_step (with_reducible first | exact HCm.out _ | fail))
            refine wpQuiet_nil ?_
            rintro _ ⟨r, rfl⟩
            have HRr := Lib.hid (HRy.out.below r.h)
            have HBr := Lib.hid (HBy.out.trans (r.h.mono (Nat.le_trans hB (Nat.le_of_lt HRy.out.s))))
            have hK2 : ∀ k, k < n + 1 → (aheadB ev) (cur.getD i 0) (cur.getD (i - 1 - k) 0) = true := by
              intro k hk
              by_cases hkn : k < n
              · exact HK.out k hkn
              · rw [show i - 1 - k = jm from by have := HJm.out; omega, HCp.out, HCq.out]
                exact hab2
            have HK2 := Lib.hid hK2
            have hdn : dnS 0 cur i (n + 1) = sw 0 (dnS 0 cur i n) j jm := by
              show sw 0 (dnS 0 cur i n) (i - n) (i - n - 1) = _
              rw [hj, show j - 1 = jm from by have := HJm.out; omega]
            have HDn := Lib.hid hdn
            have HSw := Lib.hid (HRr.out.sw hpl hql)
            have r0 := g0 r
            have r3 := g3 r
            have e0 := HRr.out.f j hpl
            have e3 := HRr.out.f jm hql
            rw [HD1.out, HD2.out, HCp.out, HCq.out] at HSw
            have HN1 := Lib.hid (show i - (n + 1) = jm ∧ a + (n + 1) ≤ i ∧ jm < j by have := HJm.out; omega)
            have d0 : ¬ j = jm := by have := HJm.out; omega
            have d1 : ¬ jm = j := by have := HJm.out; omega
            clear g0 g3 p0 q0 hg hg' hg2 hab2 ho hK2 hdn
            go_upto_region 6 with fail
            go_region
            clear r0 r3 e0 e3 d0 d1 hw1
            have ej : (j : Int) - 1 = (jm : Int) := by have := HJm.out; omega
            go_wp2_with fail
            refine ⟨⟨n + 1, by rw [HN1.out.1], HN1.out.2.1, HK2, Lib.hid ?_, Lib.hid (below_set2 hB (below_set2 hB HBr.out)).drew⟩, by have := HN1.out; simp [intOf]; omega⟩
            rw [HDn.out]
            exact HSw.out.below (Below.refl _ _).drew
        · have hg : decide ((a : Int) < (j : Int)) = false := decide_eq_false (by omega)
          have hg2 : decide ((j : Int) > (a : Int)) = false := hg
          have HN := Lib.hid (InsTo.step HIx.out ⟨n, hn, rfl, HK.out, Or.inl (by omega)⟩)
          have hdl := dnS_length 0 cur i n
          go_upto_region 4 with fail
          refine region_below (by kernel_rfl) (by kernel_rfl) ?_
          repeat (quiet_step (fail))
          refine wpQuiet_nil ?_
          rintro _ ⟨r, rfl⟩
          have HRr := Lib.hid (HRy.out.below r.h)
          have HBr := Lib.hid (HBy.out.trans (r.h.mono (Nat.le_trans hB (Nat.le_of_lt HRy.out.s))))
          clear hg hg2
          go_wp2_with fail
          refine ⟨⟨i + 1, _, by simp, by omega, Or.inl hlt, hdl.trans hcl, HN, HRr, HBr⟩, by simp [intOf]; omega⟩
    · have hf : InsR (aheadB ev) 0 a b l cur := by
        rcases hi2 with h | h
        · have hib : i = b := by omega
          rw [← hib]
          exact Or.inl ⟨by omega, HIx.out⟩
        · by_cases hb2 : a < b
          · have hib : i = b := by omega
            rw [← hib]
            exact Or.inl ⟨by omega, HIx.out⟩
          · refine Or.inr ⟨by omega, ?_⟩
            have hI := HIx.out
            rw [h] at hI
            cases hI with
            | base => rfl
            | step h1 h2 => have := h1.low; omega
      have HF := Lib.hid hf
      clear hf
      go_wp2_with fail
      go_end0
      exact ⟨_, rfl, hcl, HF.out, HRx.out, HBx.out⟩
end Go.Proofs.YtonnmkhmhndalaaDoor
end
section
namespace Go.Proofs.YtonnmkhmhndalaaDoor
set_option linter.unusedVariables false
set_option linter.unusedSimpArgs false
open Go.RowKit Go.Proofs.YtonnmkhmhndalaaDoorW.PrintWords Go.Proofs.YtonnmkhmhndalaaDoorW.PrintLast Go.Proofs.YtonnmkhmhndalaaDoorW.PrintMore
attribute [local irreducible] wpQuiet
set_option maxRecDepth 100000 in
set_option maxHeartbeats 4000000 in
theorem sym_left (ev : SEnv) (B g cap a m b : Nat) (l : List Nat) (w : World) (h : Rw ev w g l) (hB : B ≤ g) (ham : a < m) (hmb : m < b) (hb : b ≤ l.length) (hl : l.length ≤ 4398046511104) (h1 : m = a + 1) :
    Calls Tryd.prog 56 #[.slice (some ⟨g, 0, none⟩) l.length cap, .int .i64 a, .int .i64 m, .int .i64 b, fA ev] w (RwE ev B g l (Sym (aheadB ev) 0 a m b l) w) := by
  have HR := Lib.hid h
  have h2 : (m : Int) - (a : Int) = 1 := by omega
  have HM := Lib.hid h1
  clear h h1
  go_enter Tryd.func56, Tryd.ntmps56
  go_upto_region 3 with fail
  clear h2
  go_loopw [10, 11] (fun v10 v11 wx => ∃ i j : Nat, v10 = .int .i64 i ∧ v11 = .int .i64 j ∧ m ≤ i ∧ i ≤ j ∧ j ≤ b ∧ Hid (i = m ∨ (aheadB ev) (l.getD (i - 1) 0) (l.getD a 0) = true) ∧ Hid (j = b ∨ (aheadB ev) (l.getD j 0) (l.getD a 0) = false) ∧ Hid (Rw ev wx g l) ∧ Hid (Below B w wx)) (fun v10 v11 _ => (intOf v11).toNat - (intOf v10).toNat)
  case atStart => exact ⟨m, b, rfl, rfl, Nat.le_refl _, Nat.le_of_lt hmb, Nat.le_refl _, Lib.hid (Or.inl rfl), Lib.hid (Or.inl rfl), HR, Lib.hid (Below.refl _ _)⟩
  case round =>
    obtain ⟨i, j, rfl, rfl, hi, hij, hj, H1, H2, HRy, HBy⟩ := hrel
    by_cases hlt : i < j
    · obtain ⟨k, hk, hk1, hk2⟩ : ∃ k : Nat, (i + j) / 2 = k ∧ i ≤ k ∧ k < j := ⟨_, rfl, by omega, by omega⟩
      have hkI : (((i + j) / 2 : Nat) : Int) = (k : Int) := by rw [hk]
      have hkI2 : ((i : Int) + (j : Int)) / 2 = (k : Int) := by omega
      have hpl : k < l.length := by omega
      have hql : a < l.length := by omega
      have p0 := HRy.out.c k hpl
      have q0 := HRy.out.c a hql
      have hpI : ((k : Nat) : Int) < (l.length : Int) := by omega
      have hqI : ((a : Nat) : Int) < (l.length : Int) := by omega
      obtain ⟨cp, hcpE⟩ : ∃ cp, l.getD k 0 = cp := ⟨_, rfl⟩
      obtain ⟨cq, hcqE⟩ : ∃ cq, l.getD a 0 = cq := ⟨_, rfl⟩
      rw [hcpE] at p0 
      rw [hcqE] at q0 
      have hcmp := fun r => ahead_row HRy.out hpl hql r
      rw [hcpE, hcqE] at hcmp
      have hord := aheadI_lt ev cp cq
      have HCp := Lib.hid hcpE
      have HCq := Lib.hid hcqE
      clear hcpE hcqE
      generalize aheadI ev cp cq = o at hcmp hord
      have HCm := Lib.hid hcmp
      have HOr := Lib.hid hord
      clear hcmp hord
      have g0 : ∀ r : BelowBy wr, r.W.cell? ⟨g, k, none⟩ = some (.int .i64 (cp : Nat)) := fun r => r.cell p0
      have g3 : ∀ r : BelowBy wr, r.W.cell? ⟨g, a, none⟩ = some (.int .i64 (cq : Nat)) := fun r => r.cell q0
      clear p0 q0 
      go_upto_region 5 with fail
      clear hkI hkI2 hk
      cases hab2 : (aheadB ev) cp cq
      · have ho : decide (o < 0) = false := HOr.out.trans hab2
        refine region_below (by kernel_rfl) (by kernel_rfl) ?_
        repeat (quiet_step (with_reducible first | exact HCm.out _ | fail))
        refine wpQuiet_nil ?_
        rintro _ ⟨r, rfl⟩
        have HRr := Lib.hid (HRy.out.below r.h)
        have HBr := Lib.hid (HBy.out.trans (r.h.mono (Nat.le_trans hB (Nat.le_of_lt HRy.out.s))))
        clear g0 g3
        have HN := Lib.hid (show k = b ∨ (aheadB ev) (l.getD k 0) (l.getD a 0) = false from Or.inr (by rw [HCp.out, HCq.out]; exact hab2))
        clear hab2
        go_wp2_with fail
        refine ⟨⟨i, k, rfl, rfl, hi, hk1, by omega, H1, HN, HRr, HBr⟩, by simp [intOf]; omega⟩
      · have ho : decide (o < 0) = true := HOr.out.trans hab2
        refine region_below (by kernel_rfl) (by kernel_rfl) ?_
        repeat (quiet_step (with_reducible first | exact HCm.out _ | fail))
        refine wpQuiet_nil ?_
        rintro _ ⟨r, rfl⟩
        have HRr := Lib.hid (HRy.out.below r.h)
        have HBr := Lib.hid (HBy.out.trans (r.h.mono (Nat.le_trans hB (Nat.le_of_lt HRy.out.s))))
        clear g0 g3
        have HN := Lib.hid (show k + 1 = m ∨ (aheadB ev) (l.getD (k + 1 - 1) 0) (l.getD a 0) = true from Or.inr (by rw [Nat.add_sub_cancel, HCp.out, HCq.out]; exact hab2))
        clear hab2
        go_wp2_with fail
        refine ⟨⟨k + 1, j, by simp, rfl, by omega, by omega, hj, HN, H2, HRr, HBr⟩, by simp [intOf]; omega⟩
    · obtain rfl : i = j := by omega
      obtain ⟨im, him⟩ : ∃ im, i = im + 1 := ⟨i - 1, by omega⟩
      have him2 : (i : Int) - 1 = (im : Int) := by omega
      have hima : a ≤ im := by have := HM.out; omega
      have HIm := Lib.hid him
      have HRi := HRy
      have HBi := HBy
      have hiI : (im : Int) ≤ 4398046511104 := by omega
      clear him hlt HRy HBy
      go_wp2_with fail
      go_loopw [13] (fun v13 wx => ∃ n : Nat, v13 = .int .i64 ((a + n : Nat) : Int) ∧ a + n ≤ im ∧ Hid (Rw ev wx g (upS 0 l a n)) ∧ Hid (Below B w wx)) (fun v13 _ => im - (intOf v13).toNat)
      case atStart => exact ⟨0, rfl, hima, HRi, HBi⟩
      case round =>
        obtain ⟨n, rfl, hn, HRy, HBy⟩ := hrel
        obtain ⟨k, hk⟩ : ∃ k, a + n = k := ⟨_, rfl⟩
        have hul := upS_length 0 l a n
        have hus : upS 0 l a (n + 1) = sw 0 (upS 0 l a n) k (k + 1) := by rw [← hk]; rfl
        rw [hk]
        by_cases hlt : k < im
        · obtain ⟨k1, hk1⟩ : ∃ k1, k + 1 = k1 := ⟨_, rfl⟩
          have himl : im + 1 ≤ l.length := by have := HIm.out; omega
          have hkb : (k : Int) < 4398046511104 := by omega
          have ek : (k : Int) + 1 = (k1 : Int) := by omega
          have hww : IntKind.i64.wrap (k1 : Int) = (k1 : Int) := IntWalk.i64_in _ (by omega)
          have hw1 : IntKind.i64.wrap ((k : Int) + 1) = (k1 : Int) := by rw [ek]; exact hww
          rw [hk1] at hus
          have HUs := Lib.hid hus
          have HK := Lib.hid (show a + n = k ∧ k + 1 = k1 ∧ k < im from ⟨hk, hk1, hlt⟩)
          have hpl : k < (upS 0 l a n).length := by omega
          have hql : k1 < (upS 0 l a n).length := by omega
          have hpI : ((k : Nat) : Int) < (l.length : Int) := by omega
          have hqI : ((k1 : Nat) : Int) < (l.length : Int) := by omega
          have p0 := HRy.out.c k hpl
          have q0 := HRy.out.c k1 hql
          have e0 := HRy.out.f k hpl
          have e3 := HRy.out.f k1 hql
          have HSw := Lib.hid (HRy.out.sw hpl hql)
          obtain ⟨cp, hcpE⟩ : ∃ cp, (upS 0 l a n).getD k 0 = cp := ⟨_, rfl⟩
          obtain ⟨cq, hcqE⟩ : ∃ cq, (upS 0 l a n).getD k1 0 = cq := ⟨_, rfl⟩
          rw [hcpE] at p0 HSw
          rw [hcqE] at q0 HSw
          clear hcpE hcqE
          have d0 : ¬ k1 = k := by omega
          have d1 : ¬ k = k1 := by omega
          clear hus ek hww hk1 hk
          go_upto_region 11 with fail
          go_region
          clear p0 q0 e0 e3 d0 d1
          clear hw1
          go_wp2_with fail
          refine ⟨⟨n + 1, by have := HK.out; simp; omega, by have := HK.out; omega, Lib.hid ?_, Lib.hid (below_set2 hB (below_set2 hB HBy.out)).drew⟩, by have := HK.out; simp [intOf]; omega⟩
          rw [HUs.out]
          exact HSw.out.below (Below.refl _ _).drew
        · have hf : Sym (aheadB ev) 0 a m b l (upS 0 l a n) := by
            have hm := HM.out
            have hi' := HIm.out
            rw [hm] at H1 ⊢
            have := Sym.left (lt := aheadB ev) (z := 0) (a := a) (b := b) (i := i) (l := l) (by omega) hj H1.out H2.out
            rwa [show i - 1 - a = n from by omega] at this
          have HF := Lib.hid hf
          clear hf hus
          go_wp2_with fail
          go_end0
          exact ⟨_, rfl, hul, HF.out, HRy.out, HBy.out⟩
end Go.Proofs.YtonnmkhmhndalaaDoor
end
section
namespace Go.Proofs.YtonnmkhmhndalaaDoor
set_option linter.unusedVariables false
set_option linter.unusedSimpArgs false
open Go.RowKit Go.Proofs.YtonnmkhmhndalaaDoorW.PrintWords Go.Proofs.YtonnmkhmhndalaaDoorW.PrintLast Go.Proofs.YtonnmkhmhndalaaDoorW.PrintMore
attribute [local irreducible] wpQuiet
set_option maxRecDepth 100000 in
set_option maxHeartbeats 4000000 in
theorem sym_right (ev : SEnv) (B g cap a m b : Nat) (l : List Nat) (w : World) (h : Rw ev w g l) (hB : B ≤ g) (ham : a < m) (hmb : m < b) (hb : b ≤ l.length) (hl : l.length ≤ 4398046511104) (h1 : a + 1 < m) (h2 : b = m + 1) :
    Calls Tryd.prog 56 #[.slice (some ⟨g, 0, none⟩) l.length cap, .int .i64 a, .int .i64 m, .int .i64 b, fA ev] w (RwE ev B g l (Sym (aheadB ev) 0 a m b l) w) := by
  have HR := Lib.hid h
  have h3 : ((m : Int) - (a : Int) == 1) = false := beq_eq_false_iff_ne.2 (by omega)
  have h4 : (b : Int) - (m : Int) = 1 := by omega
  have HM := Lib.hid h2
  clear h h2
  go_enter Tryd.func56, Tryd.ntmps56
  go_upto_region 15 with fail
  clear h3 h4
  go_loopw [14, 15] (fun v14 v15 wx => ∃ i j : Nat, v14 = .int .i64 i ∧ v15 = .int .i64 j ∧ a ≤ i ∧ i ≤ j ∧ j ≤ m ∧ Hid (i = a ∨ (aheadB ev) (l.getD m 0) (l.getD (i - 1) 0) = false) ∧ Hid (j = m ∨ (aheadB ev) (l.getD m 0) (l.getD j 0) = true) ∧ Hid (Rw ev wx g l) ∧ Hid (Below B w wx)) (fun v14 v15 _ => (intOf v15).toNat - (intOf v14).toNat)
  case atStart => exact ⟨a, m, rfl, rfl, Nat.le_refl _, Nat.le_of_lt ham, Nat.le_refl _, Lib.hid (Or.inl rfl), Lib.hid (Or.inl rfl), HR, Lib.hid (Below.refl _ _)⟩
  case round =>
    obtain ⟨i, j, rfl, rfl, hi, hij, hj, H1, H2, HRy, HBy⟩ := hrel
    by_cases hlt : i < j
    · obtain ⟨k, hk, hk1, hk2⟩ : ∃ k : Nat, (i + j) / 2 = k ∧ i ≤ k ∧ k < j := ⟨_, rfl, by omega, by omega⟩
      have hkI : (((i + j) / 2 : Nat) : Int) = (k : Int) := by rw [hk]
      have hkI2 : ((i : Int) + (j : Int)) / 2 = (k : Int) := by omega
      have hpl : m < l.length := by omega
      have hql : k < l.length := by omega
      have p0 := HRy.out.c m hpl
      have q0 := HRy.out.c k hql
      have hpI : ((m : Nat) : Int) < (l.length : Int) := by omega
      have hqI : ((k : Nat) : Int) < (l.length : Int) := by omega
      obtain ⟨cp, hcpE⟩ : ∃ cp, l.getD m 0 = cp := ⟨_, rfl⟩
      obtain ⟨cq, hcqE⟩ : ∃ cq, l.getD k 0 = cq := ⟨_, rfl⟩
      rw [hcpE] at p0 
      rw [hcqE] at q0 
      have hcmp := fun r => ahead_row HRy.out hpl hql r
      rw [hcpE, hcqE] at hcmp
      have hord := aheadI_lt ev cp cq
      have HCp := Lib.hid hcpE
      have HCq := Lib.hid hcqE
      clear hcpE hcqE
      generalize aheadI ev cp cq = o at hcmp hord
      have HCm := Lib.hid hcmp
      have HOr := Lib.hid hord
      clear hcmp hord
      have g0 : ∀ r : BelowBy wr, r.W.cell? ⟨g, m, none⟩ = some (.int .i64 (cp : Nat)) := fun r => r.cell p0
      have g3 : ∀ r : BelowBy wr, r.W.cell? ⟨g, k, none⟩ = some (.int .i64 (cq : Nat)) := fun r => r.cell q0
      clear p0 q0 
      go_upto_region 17 with fail
      clear hkI hkI2 hk
      cases hab2 : (aheadB ev) cp cq
      · have ho : decide (o < 0) = false := HOr.out.trans hab2
        refine region_below (by kernel_rfl) (by kernel_rfl) ?_
        repeat (quiet_step (with_reducible first | exact HCm.out _ | fail))
        refine wpQuiet_nil ?_
        rintro _ ⟨r, rfl⟩
        have HRr := Lib.hid (HRy.out.below r.h)
        have HBr := Lib.hid (HBy.out.trans (r.h.mono (Nat.le_trans hB (Nat.le_of_lt HRy.out.s))))
        clear g0 g3
        have HN := Lib.hid (show k + 1 = a ∨ (aheadB ev) (l.getD m 0) (l.getD (k + 1 - 1) 0) = false from Or.inr (by rw [Nat.add_sub_cancel, HCp.out, HCq.out]; exact hab2))
        clear hab2
        go_wp2_with fail
        refine ⟨⟨k + 1, j, by simp, rfl, by omega, by omega, hj, HN, H2, HRr, HBr⟩, by simp [intOf]; omega⟩
      · have ho : decide (o < 0) = true := HOr.out.trans hab2
        refine region_below (by kernel_rfl) (by kernel_rfl) ?_
        repeat (quiet_step (with_reducible first | exact HCm.out _ | fail))
        refine wpQuiet_nil ?_
        rintro _ ⟨r, rfl⟩
        have HRr := Lib.hid (HRy.out.below r.h)
        have HBr := Lib.hid (HBy.out.trans (r.h.mono (Nat.le_trans hB (Nat.le_of_lt HRy.out.s))))
        clear g0 g3
        have HN := Lib.hid (show k = m ∨ (aheadB ev) (l.getD m 0) (l.getD k 0) = true from Or.inr (by rw [HCp.out, HCq.out]; exact hab2))
        clear hab2
        go_wp2_with fail
        refine ⟨⟨i, k, rfl, rfl, hi, hk1, by omega, H1, HN, HRr, HBr⟩, by simp [intOf]; omega⟩
    · obtain rfl : i = j := by omega
      have HRi := HRy
      have HBi := HBy
      clear hlt HRy HBy
      go_wp2_with fail
      go_loopw [17] (fun v17 wx => ∃ n : Nat, v17 = .int .i64 ((m - n : Nat) : Int) ∧ i + n ≤ m ∧ Hid (Rw ev wx g (dnS 0 l m n)) ∧ Hid (Below B w wx)) (fun v17 _ => (intOf v17).toNat - i)
      case atStart => exact ⟨0, rfl, hj, HRi, HBi⟩
      case round =>
        obtain ⟨n, rfl, hn, HRy, HBy⟩ := hrel
        obtain ⟨k, hk⟩ : ∃ k, m - n = k := ⟨_, rfl⟩
        have hul := dnS_length 0 l m n
        have hus : dnS 0 l m (n + 1) = sw 0 (dnS 0 l m n) k (k - 1) := by rw [← hk]; rfl
        rw [hk]
        by_cases hlt : i < k
        · obtain ⟨k1, hk1⟩ : ∃ k1, k - 1 = k1 := ⟨_, rfl⟩
          have hkk : k1 + 1 = k := by omega
          have hkb : (k : Int) < 4398046511104 := by omega
          have ek : (k : Int) - 1 = (k1 : Int) := by omega
          have hww : IntKind.i64.wrap (k1 : Int) = (k1 : Int) := IntWalk.i64_in _ (by omega)
          have hw1 : IntKind.i64.wrap ((k : Int) - 1) = (k1 : Int) := by rw [ek]; exact hww
          rw [hk1] at hus
          have HUs := Lib.hid hus
          have HK := Lib.hid (show m - n = k ∧ k1 + 1 = k ∧ i < k from ⟨hk, hkk, hlt⟩)
          have hpl : k < (dnS 0 l m n).length := by omega
          have hql : k1 < (dnS 0 l m n).length := by omega
          have hpI : ((k : Nat) : Int) < (l.length : Int) := by omega
          have hqI : ((k1 : Nat) : Int) < (l.length : Int) := by omega
          have p0 := HRy.out.c k hpl
          have q0 := HRy.out.c k1 hql
          have e0 := HRy.out.f k hpl
          have e3 := HRy.out.f k1 hql
          have HSw := Lib.hid (HRy.out.sw hpl hql)
          obtain ⟨cp, hcpE⟩ : ∃ cp, (dnS 0 l m n).getD k 0 = cp := ⟨_, rfl⟩
          obtain ⟨cq, hcqE⟩ : ∃ cq, (dnS 0 l m n).getD k1 0 = cq := ⟨_, rfl⟩
          rw [hcpE] at p0 HSw
          rw [hcqE] at q0 HSw
          clear hcpE hcqE
          have d0 : ¬ k1 = k := by omega
          have d1 : ¬ k = k1 := by omega
          clear hus ek hww hk1 hk hkk
          go_upto_region 23 with fail
          go_region
          clear p0 q0 e0 e3 d0 d1
          clear hw1
          have ek : (k : Int) - 1 = (k1 : Int) := by have := HK.out; omega
          go_wp2_with fail
          refine ⟨⟨n + 1, by rw [show m - (n + 1) = k1 from by have := HK.out; omega], by have := HK.out; omega, Lib.hid ?_, Lib.hid (below_set2 hB (below_set2 hB HBy.out)).drew⟩, by have := HK.out; simp [intOf]; omega⟩
          rw [HUs.out]
          exact HSw.out.below (Below.refl _ _).drew
        · have hf : Sym (aheadB ev) 0 a m b l (dnS 0 l m n) := by
            rw [HM.out]
            have := Sym.right (lt := aheadB ev) (z := 0) (a := a) (m := m) (i := i) (l := l) hi hj H1.out H2.out
            rwa [show m - i = n from by omega] at this
          have HF := Lib.hid hf
          clear hf hus
          go_wp2_with fail
          go_end0
          exact ⟨_, rfl, hul, HF.out, HRy.out, HBy.out⟩
end Go.Proofs.YtonnmkhmhndalaaDoor
end
