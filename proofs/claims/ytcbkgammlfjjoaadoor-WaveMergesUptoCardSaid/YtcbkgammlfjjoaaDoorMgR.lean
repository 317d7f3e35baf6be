/- WaveMerges: changes in a row in memory, exchanged in place. WaveMerges: ranges exchanged and turned in place, walked. WaveMerges: sorting by insertion in place, walked. -/
import Derived.Test.YtcbkgammlfjjoaaDoorMgQ
import Derived.Test.YtcbkgammlfjjoaaDoorCut
import Derived.Deep.RegionWith
import Derived.BigRegion
namespace Go.Proofs.YtcbkgammlfjjoaaDoor
set_option linter.unusedVariables false
set_option linter.unusedSimpArgs false
open Go.RowKit Go.Proofs.YtcbkgammlfjjoaaDoorW.PrintWords Go.Proofs.YtcbkgammlfjjoaaDoorW.PrintLast Go.Proofs.YtcbkgammlfjjoaaDoorW.PrintMore

theorem aheadI_lt (a b : S59) : decide (aheadI a b < 0) = aheadB a b := by
  have h := aheadI_neg a b
  by_cases h1 : aheadI a b < 0
  · rw [decide_eq_true h1]
    rw [decide_eq_false (by omega)] at h
    cases e : aheadB a b
    · rw [e] at h; cases h
    · rfl
  · rw [decide_eq_false h1]
    rw [decide_eq_true (by omega)] at h
    cases e : aheadB a b
    · rfl
    · rw [e] at h; cases h
theorem ahead_ord : OrdL aheadB := by
  refine ⟨fun a b h => ?_, fun a b c h1 h2 => ?_⟩
  · unfold aheadB at *
    simp at *
    omega
  · unfold aheadB at *
    simp at *
    omega
/-- changes in a block -/
structure Rw (W : World) (g : Nat) (l : List S59) : Prop where
  c0 : ∀ j, j < l.length → W.cell? ⟨g, j * 3, none⟩ = some (.int .i64 (l.getD j z59).f0)
  c1 : ∀ j, j < l.length → W.cell? ⟨g, j * 3 + 1, none⟩ = some (.int .i64 (l.getD j z59).f1)
  c2 : ∀ j, j < l.length → W.cell? ⟨g, j * 3 + 2, none⟩ = some (.string (l.getD j z59).f2)
  f0 : ∀ j, j < l.length → W.frozen? ⟨g, j * 3, none⟩ = false
  f1 : ∀ j, j < l.length → W.frozen? ⟨g, j * 3 + 1, none⟩ = false
  f2 : ∀ j, j < l.length → W.frozen? ⟨g, j * 3 + 2, none⟩ = false
  s : g < W.heap.size
theorem Rw.below {W W' : World} {g : Nat} {l : List S59} (h : Rw W g l) (hb : Below W.heap.size W W') : Rw W' g l :=
  ⟨fun j hj => (hb.cell (p := ⟨g, j * 3, none⟩) h.s).trans (h.c0 j hj), fun j hj => (hb.cell (p := ⟨g, j * 3 + 1, none⟩) h.s).trans (h.c1 j hj), fun j hj => (hb.cell (p := ⟨g, j * 3 + 2, none⟩) h.s).trans (h.c2 j hj), fun j hj => (hb.frozen (p := ⟨g, j * 3, none⟩) h.s).trans (h.f0 j hj), fun j hj => (hb.frozen (p := ⟨g, j * 3 + 1, none⟩) h.s).trans (h.f1 j hj), fun j hj => (hb.frozen (p := ⟨g, j * 3 + 2, none⟩) h.s).trans (h.f2 j hj), Nat.lt_of_lt_of_le h.s hb.size⟩
/-- a change stored -/
abbrev setC (W : World) (g i : Nat) (t n : Int) (v : ByteArray) : World := ((W.setCell ⟨g, i * 3, none⟩ (.int .i64 t)).setCell ⟨g, i * 3 + 1, none⟩ (.int .i64 n)).setCell ⟨g, i * 3 + 2, none⟩ (.string v)
theorem cell_ne {W : World} {g a b : Nat} {v : Value} (h : a ≠ b) : (W.setCell ⟨g, b, none⟩ v).cell? ⟨g, a, none⟩ = W.cell? ⟨g, a, none⟩ := by
  simp [go_sem, h, Ne.symm h]
theorem cell_eq {W : World} {g a : Nat} {v u : Value} (h : W.cell? ⟨g, a, none⟩ = some u) : (W.setCell ⟨g, a, none⟩ v).cell? ⟨g, a, none⟩ = some v := by
  simp [go_sem, h]
theorem froz_set {W : World} {g a b : Nat} {v : Value} : (W.setCell ⟨g, b, none⟩ v).frozen? ⟨g, a, none⟩ = W.frozen? ⟨g, a, none⟩ := by
  simp [go_sem]
theorem getD_set_eq (l : List S59) (i : Nat) (c : S59) (h : i < l.length) : (l.set i c).getD i z59 = c := by
  rw [List.getD_eq_getElem?_getD, List.getElem?_set_self h]
  rfl
theorem getD_set_ne (l : List S59) (i j : Nat) (c : S59) (h : i ≠ j) : (l.set i c).getD j z59 = l.getD j z59 := by
  rw [List.getD_eq_getElem?_getD, List.getElem?_set_ne h, ← List.getD_eq_getElem?_getD]
theorem Rw.set {W : World} {g i : Nat} {l : List S59} (h : Rw W g l) (hi : i < l.length) (c : S59) : Rw (setC W g i c.f0 c.f1 c.f2) g (l.set i c) := by
  have hsz : ∀ (a : Nat) (v : Value) (W : World), g < W.heap.size → g < (W.setCell ⟨g, a, none⟩ v).heap.size := by
    intro a v W hg
    simpa using hg
  have hl : (l.set i c).length = l.length := List.length_set
  refine ⟨fun j hj => ?_, fun j hj => ?_, fun j hj => ?_, fun j hj => ?_, fun j hj => ?_, fun j hj => ?_, hsz _ _ _ (hsz _ _ _ (hsz _ _ _ h.s))⟩ <;> rw [hl] at hj <;> unfold setC
  · rw [cell_ne (by omega), cell_ne (by omega)]
    by_cases e : i = j
    · subst e
      rw [getD_set_eq l i c hi]; exact cell_eq (h.c0 i hi)
    · rw [getD_set_ne l i j c e, cell_ne (by omega)]; exact h.c0 j hj
  · rw [cell_ne (by omega)]
    by_cases e : i = j
    · subst e
      rw [getD_set_eq l i c hi]
      refine cell_eq (u := .int .i64 (l.getD i z59).f1) ?_
      rw [cell_ne (by omega)]; exact h.c1 i hi
    · rw [getD_set_ne l i j c e, cell_ne (by omega), cell_ne (by omega)]; exact h.c1 j hj
  · by_cases e : i = j
    · subst e
      rw [getD_set_eq l i c hi]
      refine cell_eq (u := .string (l.getD i z59).f2) ?_
      rw [cell_ne (by omega), cell_ne (by omega)]; exact h.c2 i hi
    · rw [getD_set_ne l i j c e, cell_ne (by omega), cell_ne (by omega), cell_ne (by omega)]; exact h.c2 j hj
  · rw [froz_set, froz_set, froz_set]; exact h.f0 j hj
  · rw [froz_set, froz_set, froz_set]; exact h.f1 j hj
  · rw [froz_set, froz_set, froz_set]; exact h.f2 j hj
theorem Rw.sw {W : World} {g i j : Nat} {l : List S59} (h : Rw W g l) (hi : i < l.length) (hj : j < l.length) : Rw (setC (setC W g i (l.getD j z59).f0 (l.getD j z59).f1 (l.getD j z59).f2) g j (l.getD i z59).f0 (l.getD i z59).f1 (l.getD i z59).f2) g (sw z59 l i j) := by
  unfold Proofs.YtcbkgammlfjjoaaDoor.sw
  exact (h.set hi (l.getD j z59)).set (by rw [List.length_set]; exact hj) (l.getD i z59)
theorem below_setC {B : Nat} {w W : World} {g i : Nat} {t n : Int} {v : ByteArray} (hb : B ≤ g) (h : Below B w W) : Below B w (setC W g i t n v) := below_set2 hb (below_set2 hb (below_set2 hb h))
end Go.Proofs.YtcbkgammlfjjoaaDoor
namespace Go.Proofs.YtcbkgammlfjjoaaDoor
set_option linter.unusedVariables false
set_option linter.unusedSimpArgs false
open Go.RowKit Go.Proofs.YtcbkgammlfjjoaaDoorW.PrintWords Go.Proofs.YtcbkgammlfjjoaaDoorW.PrintLast Go.Proofs.YtcbkgammlfjjoaaDoorW.PrintMore

abbrev fA : Value := .func (.func 44) #[] #[]
def RwP (B g : Nat) (l' : List S59) (w : World) (e : Ending) (w' : World) : Prop := e = .returned (.tuple #[]) ∧ Rw w' g l' ∧ Below B w w'
set_option maxRecDepth 100000 in
set_option maxHeartbeats 4000000 in
theorem swapRange_any (B g cap a b n : Nat) (l : List S59) (w : World) (h : Rw w g l) (hB : B ≤ g) (ha : a + n ≤ l.length) (hb : b + n ≤ l.length) (hab : a + n ≤ b) (hl : l.length ≤ 4398046511104) :
    Calls Tryd.prog 97 #[.slice (some ⟨g, 0, none⟩) l.length cap, .int .i64 a, .int .i64 b, .int .i64 n, fA] w (RwP B g (swapR z59 l a b n) w) := by
  have HR := Lib.hid h
  clear h
  go_enter Tryd.func97, Tryd.ntmps97
  go_wp2_with fail
  go_loopw [10] (fun v10 wx => ∃ i : Nat, v10 = .int .i64 i ∧ i ≤ n ∧ Hid (Rw wx g (swapR z59 l a b i)) ∧ Hid (Below B w wx)) (fun v10 _ => n - (intOf v10).toNat)
  case atStart => exact ⟨0, rfl, Nat.zero_le _, HR, Lib.hid (Below.refl _ _)⟩
  case round =>
    obtain ⟨i, rfl, hi, HRx, HBx⟩ := hrel
    by_cases hlt : i < n
    · obtain ⟨p, hp⟩ : ∃ p, a + i = p := ⟨_, rfl⟩
      obtain ⟨q, hq⟩ : ∃ q, b + i = q := ⟨_, rfl⟩
      have hcl := swapR_length z59 l a b i
      have hsu : swapR z59 l a b (i + 1) = sw z59 (swapR z59 l a b i) p q := by rw [← hp, ← hq]; rfl
      generalize swapR z59 l a b i = cur at *
      have hpl : p < cur.length := by omega
      have hql : q < cur.length := by omega
      have hpI : (p : Int) < (l.length : Int) := by omega
      have hqI : (q : Int) < (l.length : Int) := by omega
      have hcp : (a : Int) + (i : Int) = (p : Int) := by omega
      have hcq : (b : Int) + (i : Int) = (q : Int) := by omega
      have d0 : ¬ q = p := by omega
      have d1 : ¬ p = q := by omega
      have d2 : ¬ q * 3 = p * 3 + 1 := by omega
      have d3 : ¬ q * 3 = p * 3 + 2 := by omega
      have d4 : ¬ q * 3 + 1 = p * 3 := by omega
      have d5 : ¬ q * 3 + 1 = p * 3 + 2 := by omega
      have d6 : ¬ q * 3 + 2 = p * 3 := by omega
      have d7 : ¬ q * 3 + 2 = p * 3 + 1 := by omega
      have hww : IntKind.i64.wrap (p : Int) = (p : Int) := IntWalk.i64_in _ (by omega)
      have hww2 : IntKind.i64.wrap (q : Int) = (q : Int) := IntWalk.i64_in _ (by omega)
      have hw1 : IntKind.i64.wrap ((a : Int) + (i : Int)) = (p : Int) := by rw [hcp]; exact hww
      have hw2 : IntKind.i64.wrap ((b : Int) + (i : Int)) = (q : Int) := by rw [hcq]; exact hww2
      have p0 := HRx.out.c0 p hpl
      have p1 := HRx.out.c1 p hpl
      have p2 := HRx.out.c2 p hpl
      have q0 := HRx.out.c0 q hql
      have q1 := HRx.out.c1 q hql
      have q2 := HRx.out.c2 q hql
      have e0 := HRx.out.f0 p hpl
      have e1 := HRx.out.f1 p hpl
      have e2 := HRx.out.f2 p hpl
      have g0 := HRx.out.f0 q hql
      have g1 := HRx.out.f1 q hql
      have g2 := HRx.out.f2 q hql
      have HSw := Lib.hid (HRx.out.sw hpl hql)
      obtain ⟨cp, hcpE⟩ : ∃ cp, cur.getD p z59 = cp := ⟨_, rfl⟩
      obtain ⟨cq, hcqE⟩ : ∃ cq, cur.getD q z59 = cq := ⟨_, rfl⟩
      rw [hcpE] at p0 p1 p2 HSw
      rw [hcqE] at q0 q1 q2 HSw
      obtain ⟨tp, np, vp⟩ := cp
      obtain ⟨tq, nq, vq⟩ := cq
      simp only at p0 p1 p2 q0 q1 q2
      have hib : (i : Int) < 4398046511104 := by omega
      have HSu := Lib.hid hsu
      have HLt := Lib.hid hlt
      clear hsu hcpE hcqE hcl hcp hcq hp hq hww hww2
      go_upto_region 3 with fail
      go_region
      clear p0 p1 p2 q0 q1 q2 e0 e1 e2 g0 g1 g2 hw1 hw2 d0 d1 d2 d3 d4 d5 d6 d7 hi hlt
      go_wp2_with fail
      refine ⟨⟨i + 1, by simp, HLt.out, Lib.hid ?_, Lib.hid (below_setC hB (below_setC hB HBx.out)).drew⟩, by have := HLt.out; simp [intOf]; omega⟩
      rw [HSu.out]
      exact HSw.out.below (Below.refl _ _).drew
    · obtain rfl : i = n := by omega
      go_wp2_with fail
      go_end0
      exact ⟨rfl, HRx.out, HBx.out⟩
theorem RotI.len {cur tgt : List S59} {m i j : Nat} (h : RotI cur tgt m i j) : m + j ≤ cur.length ∧ i ≤ m := by
  obtain ⟨P, U, V, S, rfl, rfl, hu, hv, hp⟩ := h
  simp only [List.length_append]
  omega
set_option maxRecDepth 100000 in
set_option maxHeartbeats 4000000 in
theorem rotate_any (B g cap a m b : Nat) (l : List S59) (w : World) (h : Rw w g l) (hB : B ≤ g) (ham : a < m) (hmb : m < b) (hb : b ≤ l.length) (hl : l.length ≤ 4398046511104) :
    Calls Tryd.prog 93 #[.slice (some ⟨g, 0, none⟩) l.length cap, .int .i64 a, .int .i64 m, .int .i64 b, fA] w (RwP B g (rotL l a m b) w) := by
  have HR := Lib.hid h
  have HI := Lib.hid (RotI.start l (Nat.le_of_lt ham) (Nat.le_of_lt hmb) hb)
  generalize rotL l a m b = tgt at *
  obtain ⟨i0, hi0⟩ : ∃ i0, m - a = i0 := ⟨_, rfl⟩
  obtain ⟨j0, hj0⟩ : ∃ j0, b - m = j0 := ⟨_, rfl⟩
  rw [hi0, hj0] at HI
  have ei : (m : Int) - (a : Int) = (i0 : Int) := by omega
  have ej : (b : Int) - (m : Int) = (j0 : Int) := by omega
  have hi1 : 0 < i0 := by omega
  have hj1 : 0 < j0 := by omega
  clear h
  go_enter Tryd.func93, Tryd.ntmps93
  go_upto_region 2 with fail
  clear ei ej hi0 hj0
  go_loopw [10, 11] (fun v10 v11 wx => ∃ (i j : Nat) (cur : List S59), v10 = .int .i64 i ∧ v11 = .int .i64 j ∧ 0 < i ∧ 0 < j ∧ cur.length = l.length ∧ Hid (RotI cur tgt m i j) ∧ Hid (Rw wx g cur) ∧ Hid (Below B w wx)) (fun v10 v11 _ => (intOf v10).toNat + (intOf v11).toNat)
  case atStart => exact ⟨i0, j0, l, rfl, rfl, hi1, hj1, rfl, HI, HR, Lib.hid (Below.refl _ _)⟩
  case round =>
    obtain ⟨i, j, cur, rfl, rfl, hi, hj, hcl, HIx, HRx, HBx⟩ := hrel
    have hlen := HIx.out.len
    obtain ⟨p, hp⟩ : ∃ p, m - i = p := ⟨_, rfl⟩
    have ep : (m : Int) - (i : Int) = (p : Int) := by omega
    have hib : (i : Int) ≤ 4398046511104 := by omega
    have hjb : (j : Int) ≤ 4398046511104 := by omega
    have hmb2 : (m : Int) ≤ 4398046511104 := by omega
    rcases Nat.lt_trichotomy j i with hlt | hlt | hlt
    · have hc := fun W (hW : Rw W g cur) => swapRange_any B g cap p m j cur W hW hB (by omega) hlen.1 (by omega) (by omega)
      rw [hcl] at hc
      have HC := Lib.hid hc
      have HN := Lib.hid (HIx.out.more z59 hlt)
      have hcl2 := swapR_length z59 cur p m j
      obtain ⟨i2, hi2⟩ : ∃ i2, i - j = i2 := ⟨_, rfl⟩
      have e2 : (i : Int) - (j : Int) = (i2 : Int) := by omega
      rw [hp, hi2] at HN
      have hne : ¬ (i : Int) = (j : Int) := by omega
      have hgt : decide ((j : Int) < (i : Int)) = true := decide_eq_true (by omega)
      clear hlen
      go_wp2_with (first | fail | (go_at_call 97; refine (HC.out _ HRx.out).mono ?_; rintro e w' ⟨rfl, hR, hb9⟩; have HR9 := Lib.hid hR; have HB9 := Lib.hid (HBx.out.trans hb9); clear hR hb9))
      refine ⟨⟨i2, j, _, rfl, rfl, by omega, hj, hcl2.trans hcl, HN, HR9, HB9⟩, by simp [intOf]; omega⟩
    · obtain rfl : j = i := hlt
      have hc := fun W (hW : Rw W g cur) => swapRange_any B g cap p m j cur W hW hB (by omega) hlen.1 (by omega) (by omega)
      rw [hcl] at hc
      have HC := Lib.hid hc
      have HN := Lib.hid (HIx.out.last z59)
      rw [hp] at HN
      clear hlen
      go_wp2_with (first | fail | (go_at_call 97; refine (HC.out _ HRx.out).mono ?_; rintro e w' ⟨rfl, hR, hb9⟩; have HR9 := Lib.hid hR; have HB9 := Lib.hid (HBx.out.trans hb9); clear hR hb9))
      go_end0
      exact ⟨rfl, by rw [← HN.out]; exact HR9.out, HB9.out⟩
    · obtain ⟨q, hq⟩ : ∃ q, m + j - i = q := ⟨_, rfl⟩
      have eq1 : (m : Int) + (j : Int) - (i : Int) = (q : Int) := by omega
      have hc := fun W (hW : Rw W g cur) => swapRange_any B g cap p q i cur W hW hB (by omega) (by omega) (by omega) (by omega)
      rw [hcl] at hc
      have HC := Lib.hid hc
      have HN := Lib.hid (HIx.out.less z59 hlt)
      have hcl2 := swapR_length z59 cur p q i
      obtain ⟨j2, hj2⟩ : ∃ j2, j - i = j2 := ⟨_, rfl⟩
      have e2 : (j : Int) - (i : Int) = (j2 : Int) := by omega
      rw [hp, hq, hj2] at HN
      have hne : ¬ (i : Int) = (j : Int) := by omega
      have hgt : decide ((j : Int) < (i : Int)) = false := decide_eq_false (by omega)
      clear hlen
      go_wp2_with (first | fail | (go_at_call 97; refine (HC.out _ HRx.out).mono ?_; rintro e w' ⟨rfl, hR, hb9⟩; have HR9 := Lib.hid hR; have HB9 := Lib.hid (HBx.out.trans hb9); clear hR hb9))
      refine ⟨⟨i, j2, _, rfl, rfl, hi, by omega, hcl2.trans hcl, HN, HR9, HB9⟩, by simp [intOf]; omega⟩
end Go.Proofs.YtcbkgammlfjjoaaDoor
namespace Go.Proofs.YtcbkgammlfjjoaaDoor
set_option linter.unusedVariables false
set_option linter.unusedSimpArgs false
open Go.RowKit Go.Proofs.YtcbkgammlfjjoaaDoorW.PrintWords Go.Proofs.YtcbkgammlfjjoaaDoorW.PrintLast Go.Proofs.YtcbkgammlfjjoaaDoorW.PrintMore

attribute [local irreducible] wpQuiet
def RwE (B g : Nat) (l : List S59) (R : List S59 → Prop) (w : World) (e : Ending) (w' : World) : Prop := ∃ l', e = .returned (.tuple #[]) ∧ l'.length = l.length ∧ R l' ∧ Rw w' g l' ∧ Below B w w'
set_option maxRecDepth 100000 in
set_option maxHeartbeats 4000000 in
theorem insSort_any (B g cap a b : Nat) (l : List S59) (w : World) (h : Rw w g l) (hB : B ≤ g) (hab : a ≤ b) (hb : b ≤ l.length) (hl : l.length ≤ 4398046511104) :
    Calls Tryd.prog 87 #[.slice (some ⟨g, 0, none⟩) l.length cap, .int .i64 a, .int .i64 b, fA] w (RwE B g l (InsR aheadB z59 a b l) w) := by
  have HR := Lib.hid h
  clear h
  go_enter Tryd.func87, Tryd.ntmps87
  go_upto_region 1 with fail
  go_loopw [8] (fun v8 wx => ∃ (i : Nat) (cur : List S59), v8 = .int .i64 i ∧ a + 1 ≤ i ∧ (i ≤ b ∨ i = a + 1) ∧ cur.length = l.length ∧ Hid (InsTo aheadB z59 a l i cur) ∧ Hid (Rw wx g cur) ∧ Hid (Below B w wx)) (fun v8 _ => b - (intOf v8).toNat)
  case atStart => exact ⟨a + 1, l, rfl, Nat.le_refl _, Or.inr rfl, rfl, Lib.hid InsTo.base, HR, Lib.hid (Below.refl _ _)⟩
  case round =>
    obtain ⟨i, cur, rfl, hi1, hi2, hcl, HIx, HRx, HBx⟩ := hrel
    by_cases hlt : i < b
    · go_upto_region 4 with fail
      go_loopw [9] (fun v9 wx => ∃ n : Nat, v9 = .int .i64 ((i - n : Nat) : Int) ∧ a + n ≤ i ∧ Hid (∀ k, k < n → aheadB (cur.getD i z59) (cur.getD (i - 1 - k) z59) = true) ∧ Hid (Rw wx g (dnS z59 cur i n)) ∧ Hid (Below B w wx)) (fun v9 _ => (intOf v9).toNat)
      case atStart => exact ⟨0, rfl, by omega, Lib.hid (fun k hk => absurd hk (Nat.not_lt_zero k)), HRx, HBx⟩
      case round =>
        obtain ⟨n, rfl, hn, HK, HRy, HBy⟩ := hrel
        obtain ⟨j, hj⟩ : ∃ j, i - n = j := ⟨_, rfl⟩
        rw [hj]
        by_cases hja : a < j
        · have hg : decide ((a : Int) < (j : Int)) = true := decide_eq_true (by omega)
          obtain ⟨jm, hjm⟩ : ∃ jm, j = jm + 1 := ⟨j - 1, by omega⟩
          have h1 := dnS_at z59 cur i (by omega) n (by omega)
          have h2 := dnS_low z59 cur i n jm (by omega) (by omega)
          rw [hj] at h1
          have hdl := dnS_length z59 cur i n
          have hpl : j < (dnS z59 cur i n).length := by omega
          have hql : jm < (dnS z59 cur i n).length := by omega
          have p0 := HRy.out.c0 j hpl
          have p1 := HRy.out.c1 j hpl
          have p2 := HRy.out.c2 j hpl
          have q0 := HRy.out.c0 jm hql
          have q1 := HRy.out.c1 jm hql
          have q2 := HRy.out.c2 jm hql
          rw [h1] at p0 p1 p2
          rw [h2] at q0 q1 q2
          have hjI : (j : Int) < (l.length : Int) := by omega
          have hqI : (jm : Int) < (l.length : Int) := by omega
          have ej : (j : Int) - 1 = (jm : Int) := by omega
          have hww : IntKind.i64.wrap (jm : Int) = (jm : Int) := IntWalk.i64_in _ (by omega)
          have hw1 : IntKind.i64.wrap ((j : Int) - 1) = (jm : Int) := by rw [ej]; exact hww
          obtain ⟨cp, hcpE⟩ : ∃ cp, cur.getD i z59 = cp := ⟨_, rfl⟩
          obtain ⟨cq, hcqE⟩ : ∃ cq, cur.getD jm z59 = cq := ⟨_, rfl⟩
          rw [hcpE] at p0 p1 p2
          rw [hcqE] at q0 q1 q2
          have hcmp := fun W => ahead_any cp cq W
          have hord := aheadI_lt cp cq
          obtain ⟨tp, np, vp⟩ := cp
          obtain ⟨tq, nq, vq⟩ := cq
          simp only at p0 p1 p2 q0 q1 q2 hcmp
          generalize aheadI ⟨tp, np, vp⟩ ⟨tq, nq, vq⟩ = o at hcmp hord
          have HCm := Lib.hid hcmp
          have HOr := Lib.hid hord
          have HJm := Lib.hid hjm
          have HCp := Lib.hid hcpE
          have HCq := Lib.hid hcqE
          have HD1 := Lib.hid h1
          have HD2 := Lib.hid h2
          clear hcmp hord hww hjm ej h1 h2 hcpE hcqE
          go_upto_region 4 with fail
          have g0 : ∀ q : BelowBy wr, q.W.cell? ⟨g, j * 3, none⟩ = some (.int .i64 tp) := fun q => q.cell p0
          have g1 : ∀ q : BelowBy wr, q.W.cell? ⟨g, j * 3 + 1, none⟩ = some (.int .i64 np) := fun q => q.cell p1
          have g2 : ∀ q : BelowBy wr, q.W.cell? ⟨g, j * 3 + 2, none⟩ = some (.string vp) := fun q => q.cell p2
          have g3 : ∀ q : BelowBy wr, q.W.cell? ⟨g, jm * 3, none⟩ = some (.int .i64 tq) := fun q => q.cell q0
          have g4 : ∀ q : BelowBy wr, q.W.cell? ⟨g, jm * 3 + 1, none⟩ = some (.int .i64 nq) := fun q => q.cell q1
          have g5 : ∀ q : BelowBy wr, q.W.cell? ⟨g, jm * 3 + 2, none⟩ = some (.string vq) := fun q => q.cell q2
          have hg' : decide ((a : Int) < (j : Int)) = true := hg
          have hg2 : decide ((j : Int) > (a : Int)) = true := hg
          cases hab2 : aheadB ⟨tp, np, vp⟩ ⟨tq, nq, vq⟩
          · have ho : decide (o < 0) = false := HOr.out.trans hab2
            refine region_below (by kernel_rfl) (by kernel_rfl) ?_
            repeat (quiet_step (with_reducible first | exact call_below _ (HCm.out _) | fail))
            refine wpQuiet_nil ?_
            rintro _ ⟨r, rfl⟩
            have HN := Lib.hid (InsTo.step HIx.out ⟨n, hn, rfl, HK.out, Or.inr (by rw [show i - n - 1 = jm from by have := HJm.out; omega, HCp.out, HCq.out]; exact hab2)⟩)
            have HRr := Lib.hid (HRy.out.below r.h)
            have HBr := Lib.hid (HBy.out.trans (r.h.mono (Nat.le_trans hB (Nat.le_of_lt HRy.out.s))))
            clear g0 g1 g2 g3 g4 g5 p0 p1 p2 q0 q1 q2 hg hg' hg2 hab2 ho hw1
            go_wp2_with fail
            refine ⟨⟨i + 1, _, by simp, by omega, Or.inl hlt, hdl.trans hcl, HN, HRr, HBr⟩, by simp [intOf]; omega⟩
          · have ho : decide (o < 0) = true := HOr.out.trans hab2
            refine region_below (by kernel_rfl) (by kernel_rfl) ?_
            repeat (quiet_step (with_reducible first | exact call_below _ (HCm.out _) | fail))
            refine wpQuiet_nil ?_
            rintro _ ⟨r, rfl⟩
            have HRr := Lib.hid (HRy.out.below r.h)
            have HBr := Lib.hid (HBy.out.trans (r.h.mono (Nat.le_trans hB (Nat.le_of_lt HRy.out.s))))
            have hK2 : ∀ k, k < n + 1 → aheadB (cur.getD i z59) (cur.getD (i - 1 - k) z59) = true := by
              intro k hk
              by_cases hkn : k < n
              · exact HK.out k hkn
              · rw [show i - 1 - k = jm from by have := HJm.out; omega, HCp.out, HCq.out]
                exact hab2
            have HK2 := Lib.hid hK2
            have hdn : dnS z59 cur i (n + 1) = sw z59 (dnS z59 cur i n) j jm := by
              show sw z59 (dnS z59 cur i n) (i - n) (i - n - 1) = _
              rw [hj, show j - 1 = jm from by have := HJm.out; omega]
            have HDn := Lib.hid hdn
            have HSw := Lib.hid (HRr.out.sw hpl hql)
            have r0 := g0 r
            have r1 := g1 r
            have r2 := g2 r
            have r3 := g3 r
            have r4 := g4 r
            have r5 := g5 r
            have e0 := HRr.out.f0 j hpl
            have e1 := HRr.out.f1 j hpl
            have e2 := HRr.out.f2 j hpl
            have e3 := HRr.out.f0 jm hql
            have e4 := HRr.out.f1 jm hql
            have e5 := HRr.out.f2 jm hql
            rw [HD1.out, HD2.out, HCp.out, HCq.out] at HSw
            have HN1 := Lib.hid (show i - (n + 1) = jm ∧ a + (n + 1) ≤ i ∧ jm < j by have := HJm.out; omega)
            have d0 : ¬ j = jm := by have := HJm.out; omega
            have d1 : ¬ jm = j := by have := HJm.out; omega
            have d2 : ¬ jm * 3 = j * 3 + 1 := by omega
            have d3 : ¬ jm * 3 = j * 3 + 2 := by omega
            have d4 : ¬ jm * 3 + 1 = j * 3 := by omega
            have d5 : ¬ jm * 3 + 1 = j * 3 + 2 := by omega
            have d6 : ¬ jm * 3 + 2 = j * 3 := by omega
            have d7 : ¬ jm * 3 + 2 = j * 3 + 1 := by omega
            clear g0 g1 g2 g3 g4 g5 p0 p1 p2 q0 q1 q2 hg hg' hg2 hab2 ho hK2 hdn
            go_upto_region 6 with fail
            go_region
            clear r0 r1 r2 r3 r4 r5 e0 e1 e2 e3 e4 e5 d0 d1 d2 d3 d4 d5 d6 d7 hw1
            have ej : (j : Int) - 1 = (jm : Int) := by have := HJm.out; omega
            go_wp2_with fail
            refine ⟨⟨n + 1, by rw [HN1.out.1], HN1.out.2.1, HK2, Lib.hid ?_, Lib.hid (below_setC hB (below_setC hB HBr.out)).drew⟩, by have := HN1.out; simp [intOf]; omega⟩
            rw [HDn.out]
            exact HSw.out.below (Below.refl _ _).drew
        · have hg : decide ((a : Int) < (j : Int)) = false := decide_eq_false (by omega)
          have hg2 : decide ((j : Int) > (a : Int)) = false := hg
          have HN := Lib.hid (InsTo.step HIx.out ⟨n, hn, rfl, HK.out, Or.inl (by omega)⟩)
          have hdl := dnS_length z59 cur i n
          go_upto_region 4 with fail
          refine region_below (by kernel_rfl) (by kernel_rfl) ?_
          repeat (quiet_step (fail))
          refine wpQuiet_nil ?_
          rintro _ ⟨r, rfl⟩
          have HRr := Lib.hid (HRy.out.below r.h)
          have HBr := Lib.hid (HBy.out.trans (r.h.mono (Nat.le_trans hB (Nat.le_of_lt HRy.out.s))))
          clear hg hg2
          go_wp2_with fail
          refine ⟨⟨i + 1, _, by simp, by omega, Or.inl hlt, hdl.trans hcl, HN, HRr, HBr⟩, by simp [intOf]; omega⟩
    · have hf : InsR aheadB z59 a b l cur := by
        rcases hi2 with h | h
        · have hib : i = b := by omega
          rw [← hib]
          exact Or.inl ⟨by omega, HIx.out⟩
        · by_cases hb2 : a < b
          · have hib : i = b := by omega
            rw [← hib]
            exact Or.inl ⟨by omega, HIx.out⟩
          · refine Or.inr ⟨by omega, ?_⟩
            have hI := HIx.out
            rw [h] at hI
            cases hI with
            | base => rfl
            | step h1 h2 => have := h1.low; omega
      have HF := Lib.hid hf
      clear hf
      go_wp2_with fail
      go_end0
      exact ⟨_, rfl, hcl, HF.out, HRx.out, HBx.out⟩
end Go.Proofs.YtcbkgammlfjjoaaDoor
