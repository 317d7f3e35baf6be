/- Turned by wip/level/gen_lv.py out of a printed text. Which netlists may be, plainly. -/
import Derived.Test.YtonnmkhmhndalaaDoorZa
section
namespace Go.Proofs.YtonnmkhmhndalaaDoor
open Go.RowKit Go.Proofs.YtonnmkhmhndalaaDoorW.PrintWords Go.Proofs.YtonnmkhmhndalaaDoorW.PrintLast Go.Proofs.YtonnmkhmhndalaaDoorW.PrintMore
attribute [local go_sem] max2_int min2_int max_two min_two max_three min_three max_four min_four   -- for this text's walks alone
set_option linter.unusedVariables false
set_option linter.unusedSimpArgs false
mutual
def lower_operated.j0 : Nat → List Int → Int → Int → Bool → Int → Int → Int → List Int → ByteArray → Int → Int → Int → Option (Int)
  | 0, _, _, _, _, _, _, _, _, _, _, _, _ => none
  | k + 1, x1, x5, x6, x14, x105000, x105001, x105002, x105003, x105004, x105005, x105006, x105007 => if x14 = true then (if x5 = 1 then (if 0 < (x1.length : Int) then (some (rd x1 0)) else (none)) else (some 0)) else (if x6 ≥ 7 then (lower_operated.j1 k x1 x5 x6 (decide (x6 ≤ 12)) x105000 x105001 x105002 x105003 x105004 x105005 x105006 x105007) else (lower_operated.j1 k x1 x5 x6 false x105000 x105001 x105002 x105003 x105004 x105005 x105006 x105007))
def lower_operated.j1 : Nat → List Int → Int → Int → Bool → Int → Int → Int → List Int → ByteArray → Int → Int → Int → Option (Int)
  | 0, _, _, _, _, _, _, _, _, _, _, _, _ => none
  | k + 1, x1, x5, x6, x26, x105000, x105001, x105002, x105003, x105004, x105005, x105006, x105007 => if x26 = true then ((lower_is.f (x5 == 1)).bind fun t106 => (some t106)) else (if x6 = 15 then (lower_operated.j2 k x1 x5 x6 true x105000 x105001 x105002 x105003 x105004 x105005 x105006 x105007) else (lower_operated.j2 k x1 x5 x6 (x6 == 16) x105000 x105001 x105002 x105003 x105004 x105005 x105006 x105007))
def lower_operated.j2 : Nat → List Int → Int → Int → Bool → Int → Int → Int → List Int → ByteArray → Int → Int → Int → Option (Int)
  | 0, _, _, _, _, _, _, _, _, _, _, _, _ => none
  | k + 1, x1, x5, x6, x36, x105000, x105001, x105002, x105003, x105004, x105005, x105006, x105007 => if x36 = true then (if x5 = 2 then (if 0 < (x1.length : Int) then (some (rd x1 0)) else (none)) else (some 0)) else (if x6 = 13 then (lower_operated.j3 k x1 x5 x6 true x105000 x105001 x105002 x105003 x105004 x105005 x105006 x105007) else (if x6 = 14 then (lower_operated.j3 k x1 x5 x6 true x105000 x105001 x105002 x105003 x105004 x105005 x105006 x105007) else (if x6 = 23 then (lower_operated.j3 k x1 x5 x6 true x105000 x105001 x105002 x105003 x105004 x105005 x105006 x105007) else (if x6 = 25 then (lower_operated.j3 k x1 x5 x6 true x105000 x105001 x105002 x105003 x105004 x105005 x105006 x105007) else (lower_operated.j3 k x1 x5 x6 (x6 == 24) x105000 x105001 x105002 x105003 x105004 x105005 x105006 x105007)))))
def lower_operated.j3 : Nat → List Int → Int → Int → Bool → Int → Int → Int → List Int → ByteArray → Int → Int → Int → Option (Int)
  | 0, _, _, _, _, _, _, _, _, _, _, _, _ => none
  | k + 1, x1, x5, x6, x48, x105000, x105001, x105002, x105003, x105004, x105005, x105006, x105007 => if x48 = true then (if x5 = 2 then (if 0 < (x1.length : Int) then (if 1 < (x1.length : Int) then (if (rd x1 0) = (rd x1 1) then (some (rd x1 0)) else (some 0)) else (none)) else (none)) else (some 0)) else (if x6 ≥ 17 then (lower_operated.j4 k x1 x5 x6 (decide (x6 ≤ 22)) x105000 x105001 x105002 x105003 x105004 x105005 x105006 x105007) else (lower_operated.j4 k x1 x5 x6 false x105000 x105001 x105002 x105003 x105004 x105005 x105006 x105007))
def lower_operated.j4 : Nat → List Int → Int → Int → Bool → Int → Int → Int → List Int → ByteArray → Int → Int → Int → Option (Int)
  | 0, _, _, _, _, _, _, _, _, _, _, _, _ => none
  | k + 1, x1, x5, x6, x81, x105000, x105001, x105002, x105003, x105004, x105005, x105006, x105007 => if x81 = true then (if x5 = 2 then (if 0 < (x1.length : Int) then (if 1 < (x1.length : Int) then ((lower_is.f ((rd x1 0) == (rd x1 1))).bind fun t113 => (some t113)) else (none)) else (none)) else ((lower_is.f false).bind fun t114 => (some t114))) else (if x6 = 26 then (lower_operated.j5 k x1 x5 x6 true x105000 x105001 x105002 x105003 x105004 x105005 x105006 x105007) else (if x6 = 27 then (lower_operated.j5 k x1 x5 x6 true x105000 x105001 x105002 x105003 x105004 x105005 x105006 x105007) else (lower_operated.j5 k x1 x5 x6 (x6 == 3) x105000 x105001 x105002 x105003 x105004 x105005 x105006 x105007)))
def lower_operated.j5 : Nat → List Int → Int → Int → Bool → Int → Int → Int → List Int → ByteArray → Int → Int → Int → Option (Int)
  | 0, _, _, _, _, _, _, _, _, _, _, _, _ => none
  | k + 1, x1, x5, x6, x100, x105000, x105001, x105002, x105003, x105004, x105005, x105006, x105007 => if x100 = true then ((lower_is.f (x5 == 2)).bind fun t115 => (some t115)) else (if x6 = 6 then (if x5 = 3 then (if 1 < (x1.length : Int) then (if 2 < (x1.length : Int) then (if (rd x1 1) = (rd x1 2) then (some (rd x1 1)) else (some 0)) else (none)) else (none)) else (some 0)) else (if x6 = 4 then (if x5 = 1 then (if x105006 ≥ 0 then (if x105005 ≥ x105006 then (if 0 < (x1.length : Int) then (if x105005 < (rd x1 0) then (some (wrap64 ((wrap64 (x105005 - x105006)) + 1))) else (some 0)) else (none)) else (some 0)) else (some 0)) else (some 0)) else (if x6 = 5 then (lower_operated.l0 k 0 x1 (x1.length : Int) 0) else (some 0))))
def lower_operated.l0 : Nat → Int → List Int → Int → Int → Option (Int)
  | 0, _, _, _, _ => none
  | k + 1, x7, x165, x166, x167 => if x167 < x166 then (if 0 ≤ x167 then (if x167 < (x165.length : Int) then (lower_operated.l0 k (wrap64 (x7 + (rd x165 x167))) x165 x166 (wrap64 (x167 + 1))) else (none)) else (none)) else (some x7)
end
def lower_operated.f (k : Nat) (a0_0 : Int) (a0_1 : Int) (a0_2 : Int) (l0_3 : List Int) (a0_4 : ByteArray) (a0_5 : Int) (a0_6 : Int) (a0_7 : Int) (l1 : List Int) : Option (Int) := if a0_1 = 7 then (lower_operated.j0 k l1 (l1.length : Int) a0_1 true a0_0 a0_1 a0_2 l0_3 a0_4 a0_5 a0_6 a0_7) else (lower_operated.j0 k l1 (l1.length : Int) a0_1 (a0_1 == 9) a0_0 a0_1 a0_2 l0_3 a0_4 a0_5 a0_6 a0_7)
theorem lower_operated.mono_l : ∀ k, (∀ y0 y1 y2 y3 y4 y5 y6 y7 y8 y9 y10 y11, LeO (lower_operated.j0 k y0 y1 y2 y3 y4 y5 y6 y7 y8 y9 y10 y11) (lower_operated.j0 (k + 1) y0 y1 y2 y3 y4 y5 y6 y7 y8 y9 y10 y11)) ∧ (∀ y0 y1 y2 y3 y4 y5 y6 y7 y8 y9 y10 y11, LeO (lower_operated.j1 k y0 y1 y2 y3 y4 y5 y6 y7 y8 y9 y10 y11) (lower_operated.j1 (k + 1) y0 y1 y2 y3 y4 y5 y6 y7 y8 y9 y10 y11)) ∧ (∀ y0 y1 y2 y3 y4 y5 y6 y7 y8 y9 y10 y11, LeO (lower_operated.j2 k y0 y1 y2 y3 y4 y5 y6 y7 y8 y9 y10 y11) (lower_operated.j2 (k + 1) y0 y1 y2 y3 y4 y5 y6 y7 y8 y9 y10 y11)) ∧ (∀ y0 y1 y2 y3 y4 y5 y6 y7 y8 y9 y10 y11, LeO (lower_operated.j3 k y0 y1 y2 y3 y4 y5 y6 y7 y8 y9 y10 y11) (lower_operated.j3 (k + 1) y0 y1 y2 y3 y4 y5 y6 y7 y8 y9 y10 y11)) ∧ (∀ y0 y1 y2 y3 y4 y5 y6 y7 y8 y9 y10 y11, LeO (lower_operated.j4 k y0 y1 y2 y3 y4 y5 y6 y7 y8 y9 y10 y11) (lower_operated.j4 (k + 1) y0 y1 y2 y3 y4 y5 y6 y7 y8 y9 y10 y11)) ∧ (∀ y0 y1 y2 y3 y4 y5 y6 y7 y8 y9 y10 y11, LeO (lower_operated.j5 k y0 y1 y2 y3 y4 y5 y6 y7 y8 y9 y10 y11) (lower_operated.j5 (k + 1) y0 y1 y2 y3 y4 y5 y6 y7 y8 y9 y10 y11)) ∧ (∀ y0 y1 y2 y3, LeO (lower_operated.l0 k y0 y1 y2 y3) (lower_operated.l0 (k + 1) y0 y1 y2 y3))
  | 0 => ⟨fun _ _ _ _ _ _ _ _ _ _ _ _ r h => by simp [lower_operated.j0] at h, fun _ _ _ _ _ _ _ _ _ _ _ _ r h => by simp [lower_operated.j1] at h, fun _ _ _ _ _ _ _ _ _ _ _ _ r h => by simp [lower_operated.j2] at h, fun _ _ _ _ _ _ _ _ _ _ _ _ r h => by simp [lower_operated.j3] at h, fun _ _ _ _ _ _ _ _ _ _ _ _ r h => by simp [lower_operated.j4] at h, fun _ _ _ _ _ _ _ _ _ _ _ _ r h => by simp [lower_operated.j5] at h, fun _ _ _ _ r h => by simp [lower_operated.l0] at h⟩
  | k + 1 => by
    obtain ⟨ih0, ih1, ih2, ih3, ih4, ih5, ih6⟩ := lower_operated.mono_l k
    refine ⟨?_, ?_, ?_, ?_, ?_, ?_, ?_⟩
    · intro y0 y1 y2 y3 y4 y5 y6 y7 y8 y9 y10 y11
      unfold lower_operated.j0
      repeat' first
      | (with_reducible exact ih0 _ _ _ _ _ _ _ _ _ _ _ _)
      | (with_reducible exact ih1 _ _ _ _ _ _ _ _ _ _ _ _)
      | (with_reducible exact ih2 _ _ _ _ _ _ _ _ _ _ _ _)
      | (with_reducible exact ih3 _ _ _ _ _ _ _ _ _ _ _ _)
      | (with_reducible exact ih4 _ _ _ _ _ _ _ _ _ _ _ _)
      | (with_reducible exact ih5 _ _ _ _ _ _ _ _ _ _ _ _)
      | (with_reducible exact ih6 _ _ _ _)
      | (with_reducible exact LeO.refl _)
      | (with_reducible exact LeO.none _)
      | (with_reducible refine LeO.ite ?_ ?_)
      | (with_reducible refine LeO.bind ?_ (fun _ => ?_))
      | exact ih0 _ _ _ _ _ _ _ _ _ _ _ _
      | exact ih1 _ _ _ _ _ _ _ _ _ _ _ _
      | exact ih2 _ _ _ _ _ _ _ _ _ _ _ _
      | exact ih3 _ _ _ _ _ _ _ _ _ _ _ _
      | exact ih4 _ _ _ _ _ _ _ _ _ _ _ _
      | exact ih5 _ _ _ _ _ _ _ _ _ _ _ _
      | exact ih6 _ _ _ _
      | exact LeO.none _
      | refine LeO.ite ?_ ?_
      | refine LeO.bind ?_ (fun _ => ?_)
    · intro y0 y1 y2 y3 y4 y5 y6 y7 y8 y9 y10 y11
      unfold lower_operated.j1
      repeat' first
      | (with_reducible exact ih0 _ _ _ _ _ _ _ _ _ _ _ _)
      | (with_reducible exact ih1 _ _ _ _ _ _ _ _ _ _ _ _)
      | (with_reducible exact ih2 _ _ _ _ _ _ _ _ _ _ _ _)
      | (with_reducible exact ih3 _ _ _ _ _ _ _ _ _ _ _ _)
      | (with_reducible exact ih4 _ _ _ _ _ _ _ _ _ _ _ _)
      | (with_reducible exact ih5 _ _ _ _ _ _ _ _ _ _ _ _)
      | (with_reducible exact ih6 _ _ _ _)
      | (with_reducible exact LeO.refl _)
      | (with_reducible exact LeO.none _)
      | (with_reducible refine LeO.ite ?_ ?_)
      | (with_reducible refine LeO.bind ?_ (fun _ => ?_))
      | exact ih0 _ _ _ _ _ _ _ _ _ _ _ _
      | exact ih1 _ _ _ _ _ _ _ _ _ _ _ _
      | exact ih2 _ _ _ _ _ _ _ _ _ _ _ _
      | exact ih3 _ _ _ _ _ _ _ _ _ _ _ _
      | exact ih4 _ _ _ _ _ _ _ _ _ _ _ _
      | exact ih5 _ _ _ _ _ _ _ _ _ _ _ _
      | exact ih6 _ _ _ _
      | exact LeO.none _
      | refine LeO.ite ?_ ?_
      | refine LeO.bind ?_ (fun _ => ?_)
    · intro y0 y1 y2 y3 y4 y5 y6 y7 y8 y9 y10 y11
      unfold lower_operated.j2
      repeat' first
      | (with_reducible exact ih0 _ _ _ _ _ _ _ _ _ _ _ _)
      | (with_reducible exact ih1 _ _ _ _ _ _ _ _ _ _ _ _)
      | (with_reducible exact ih2 _ _ _ _ _ _ _ _ _ _ _ _)
      | (with_reducible exact ih3 _ _ _ _ _ _ _ _ _ _ _ _)
      | (with_reducible exact ih4 _ _ _ _ _ _ _ _ _ _ _ _)
      | (with_reducible exact ih5 _ _ _ _ _ _ _ _ _ _ _ _)
      | (with_reducible exact ih6 _ _ _ _)
      | (with_reducible exact LeO.refl _)
      | (with_reducible exact LeO.none _)
      | (with_reducible refine LeO.ite ?_ ?_)
      | (with_reducible refine LeO.bind ?_ (fun _ => ?_))
      | exact ih0 _ _ _ _ _ _ _ _ _ _ _ _
      | exact ih1 _ _ _ _ _ _ _ _ _ _ _ _
      | exact ih2 _ _ _ _ _ _ _ _ _ _ _ _
      | exact ih3 _ _ _ _ _ _ _ _ _ _ _ _
      | exact ih4 _ _ _ _ _ _ _ _ _ _ _ _
      | exact ih5 _ _ _ _ _ _ _ _ _ _ _ _
      | exact ih6 _ _ _ _
      | exact LeO.none _
      | refine LeO.ite ?_ ?_
      | refine LeO.bind ?_ (fun _ => ?_)
    · intro y0 y1 y2 y3 y4 y5 y6 y7 y8 y9 y10 y11
      unfold lower_operated.j3
      repeat' first
      | (with_reducible exact ih0 _ _ _ _ _ _ _ _ _ _ _ _)
      | (with_reducible exact ih1 _ _ _ _ _ _ _ _ _ _ _ _)
      | (with_reducible exact ih2 _ _ _ _ _ _ _ _ _ _ _ _)
      | (with_reducible exact ih3 _ _ _ _ _ _ _ _ _ _ _ _)
      | (with_reducible exact ih4 _ _ _ _ _ _ _ _ _ _ _ _)
      | (with_reducible exact ih5 _ _ _ _ _ _ _ _ _ _ _ _)
      | (with_reducible exact ih6 _ _ _ _)
      | (with_reducible exact LeO.refl _)
      | (with_reducible exact LeO.none _)
      | (with_reducible refine LeO.ite ?_ ?_)
      | (with_reducible refine LeO.bind ?_ (fun _ => ?_))
      | exact ih0 _ _ _ _ _ _ _ _ _ _ _ _
      | exact ih1 _ _ _ _ _ _ _ _ _ _ _ _
      | exact ih2 _ _ _ _ _ _ _ _ _ _ _ _
      | exact ih3 _ _ _ _ _ _ _ _ _ _ _ _
      | exact ih4 _ _ _ _ _ _ _ _ _ _ _ _
      | exact ih5 _ _ _ _ _ _ _ _ _ _ _ _
      | exact ih6 _ _ _ _
      | exact LeO.none _
      | refine LeO.ite ?_ ?_
      | refine LeO.bind ?_ (fun _ => ?_)
    · intro y0 y1 y2 y3 y4 y5 y6 y7 y8 y9 y10 y11
      unfold lower_operated.j4
      repeat' first
      | (with_reducible exact ih0 _ _ _ _ _ _ _ _ _ _ _ _)
      | (with_reducible exact ih1 _ _ _ _ _ _ _ _ _ _ _ _)
      | (with_reducible exact ih2 _ _ _ _ _ _ _ _ _ _ _ _)
      | (with_reducible exact ih3 _ _ _ _ _ _ _ _ _ _ _ _)
      | (with_reducible exact ih4 _ _ _ _ _ _ _ _ _ _ _ _)
      | (with_reducible exact ih5 _ _ _ _ _ _ _ _ _ _ _ _)
      | (with_reducible exact ih6 _ _ _ _)
      | (with_reducible exact LeO.refl _)
      | (with_reducible exact LeO.none _)
      | (with_reducible refine LeO.ite ?_ ?_)
      | (with_reducible refine LeO.bind ?_ (fun _ => ?_))
      | exact ih0 _ _ _ _ _ _ _ _ _ _ _ _
      | exact ih1 _ _ _ _ _ _ _ _ _ _ _ _
      | exact ih2 _ _ _ _ _ _ _ _ _ _ _ _
      | exact ih3 _ _ _ _ _ _ _ _ _ _ _ _
      | exact ih4 _ _ _ _ _ _ _ _ _ _ _ _
      | exact ih5 _ _ _ _ _ _ _ _ _ _ _ _
      | exact ih6 _ _ _ _
      | exact LeO.none _
      | refine LeO.ite ?_ ?_
      | refine LeO.bind ?_ (fun _ => ?_)
    · intro y0 y1 y2 y3 y4 y5 y6 y7 y8 y9 y10 y11
      unfold lower_operated.j5
      repeat' first
      | (with_reducible exact ih0 _ _ _ _ _ _ _ _ _ _ _ _)
      | (with_reducible exact ih1 _ _ _ _ _ _ _ _ _ _ _ _)
      | (with_reducible exact ih2 _ _ _ _ _ _ _ _ _ _ _ _)
      | (with_reducible exact ih3 _ _ _ _ _ _ _ _ _ _ _ _)
      | (with_reducible exact ih4 _ _ _ _ _ _ _ _ _ _ _ _)
      | (with_reducible exact ih5 _ _ _ _ _ _ _ _ _ _ _ _)
      | (with_reducible exact ih6 _ _ _ _)
      | (with_reducible exact LeO.refl _)
      | (with_reducible exact LeO.none _)
      | (with_reducible refine LeO.ite ?_ ?_)
      | (with_reducible refine LeO.bind ?_ (fun _ => ?_))
      | exact ih0 _ _ _ _ _ _ _ _ _ _ _ _
      | exact ih1 _ _ _ _ _ _ _ _ _ _ _ _
      | exact ih2 _ _ _ _ _ _ _ _ _ _ _ _
      | exact ih3 _ _ _ _ _ _ _ _ _ _ _ _
      | exact ih4 _ _ _ _ _ _ _ _ _ _ _ _
      | exact ih5 _ _ _ _ _ _ _ _ _ _ _ _
      | exact ih6 _ _ _ _
      | exact LeO.none _
      | refine LeO.ite ?_ ?_
      | refine LeO.bind ?_ (fun _ => ?_)
    · intro y0 y1 y2 y3
      unfold lower_operated.l0
      repeat' first
      | (with_reducible exact ih0 _ _ _ _ _ _ _ _ _ _ _ _)
      | (with_reducible exact ih1 _ _ _ _ _ _ _ _ _ _ _ _)
      | (with_reducible exact ih2 _ _ _ _ _ _ _ _ _ _ _ _)
      | (with_reducible exact ih3 _ _ _ _ _ _ _ _ _ _ _ _)
      | (with_reducible exact ih4 _ _ _ _ _ _ _ _ _ _ _ _)
      | (with_reducible exact ih5 _ _ _ _ _ _ _ _ _ _ _ _)
      | (with_reducible exact ih6 _ _ _ _)
      | (with_reducible exact LeO.refl _)
      | (with_reducible exact LeO.none _)
      | (with_reducible refine LeO.ite ?_ ?_)
      | (with_reducible refine LeO.bind ?_ (fun _ => ?_))
      | exact ih0 _ _ _ _ _ _ _ _ _ _ _ _
      | exact ih1 _ _ _ _ _ _ _ _ _ _ _ _
      | exact ih2 _ _ _ _ _ _ _ _ _ _ _ _
      | exact ih3 _ _ _ _ _ _ _ _ _ _ _ _
      | exact ih4 _ _ _ _ _ _ _ _ _ _ _ _
      | exact ih5 _ _ _ _ _ _ _ _ _ _ _ _
      | exact ih6 _ _ _ _
      | exact LeO.none _
      | refine LeO.ite ?_ ?_
      | refine LeO.bind ?_ (fun _ => ?_)
theorem lower_operated.mono : ∀ a0 a1 a2 a3 a4 a5 a6 a7 a8 k, LeO (lower_operated.f k a0 a1 a2 a3 a4 a5 a6 a7 a8) (lower_operated.f (k + 1) a0 a1 a2 a3 a4 a5 a6 a7 a8) := by
  intro a0 a1 a2 a3 a4 a5 a6 a7 a8 k
  obtain ⟨ih0, ih1, ih2, ih3, ih4, ih5, ih6⟩ := lower_operated.mono_l k
  unfold lower_operated.f
  repeat' first
      | (with_reducible exact ih0 _ _ _ _ _ _ _ _ _ _ _ _)
      | (with_reducible exact ih1 _ _ _ _ _ _ _ _ _ _ _ _)
      | (with_reducible exact ih2 _ _ _ _ _ _ _ _ _ _ _ _)
      | (with_reducible exact ih3 _ _ _ _ _ _ _ _ _ _ _ _)
      | (with_reducible exact ih4 _ _ _ _ _ _ _ _ _ _ _ _)
      | (with_reducible exact ih5 _ _ _ _ _ _ _ _ _ _ _ _)
      | (with_reducible exact ih6 _ _ _ _)
      | (with_reducible exact LeO.refl _)
      | (with_reducible exact LeO.none _)
      | (with_reducible refine LeO.ite ?_ ?_)
      | (with_reducible refine LeO.bind ?_ (fun _ => ?_))
      | exact ih0 _ _ _ _ _ _ _ _ _ _ _ _
      | exact ih1 _ _ _ _ _ _ _ _ _ _ _ _
      | exact ih2 _ _ _ _ _ _ _ _ _ _ _ _
      | exact ih3 _ _ _ _ _ _ _ _ _ _ _ _
      | exact ih4 _ _ _ _ _ _ _ _ _ _ _ _
      | exact ih5 _ _ _ _ _ _ _ _ _ _ _ _
      | exact ih6 _ _ _ _
      | exact LeO.none _
      | refine LeO.ite ?_ ?_
      | refine LeO.bind ?_ (fun _ => ?_)
set_option maxHeartbeats 8000000 in
set_option maxRecDepth 100000 in
theorem lower_operated.calls (k : Nat) (a0_0 : Int) (a0_1 : Int) (a0_2 : Int) (A0_3 : Option Addr) (c0_3 : Nat) (l0_3 : List Int) (a0_4 : ByteArray) (a0_5 : Int) (a0_6 : Int) (a0_7 : Int) (A1 : Option Addr) (c1 : Nat) (l1 : List Int) (r : Int) (w : World) (hr0_3 : Kd.C (Kd.int .i64) w A0_3 l0_3.length l0_3) (hc0_3 : l0_3.length ≤ c0_3) (hr1 : Kd.C (Kd.int .i64) w A1 l1.length l1) (hc1 : l1.length ≤ c1) (h : lower_operated.f k a0_0 a0_1 a0_2 l0_3 a0_4 a0_5 a0_6 a0_7 l1 = some r) :
    Calls Tryd.prog 54 #[.agg #[.int .i64 a0_0, .int .i64 a0_1, .int .i64 a0_2, .slice A0_3 l0_3.length c0_3, .string a0_4, .int .i64 a0_5, .int .i64 a0_6, .int .i64 a0_7], .slice A1 l1.length c1] w fun e w' => e = .returned (.int .i64 r) ∧ Below w.heap.size w w' := by
  have hu39 := Tryd.underlying39
  have HR0_3 := Aside0.mk hr0_3
  have HC0_3 := Aside0.mk hc0_3
  clear hr0_3 hc0_3
  have HR1 := Aside0.mk hr1
  have HC1 := Aside0.mk hc1
  clear hr1 hc1
  have HB := Aside0.mk (Below.refl w.heap.size w)
  have H : (if a0_1 = 7 then (lower_operated.j0 k l1 (l1.length : Int) a0_1 true a0_0 a0_1 a0_2 l0_3 a0_4 a0_5 a0_6 a0_7) else (lower_operated.j0 k l1 (l1.length : Int) a0_1 (a0_1 == 9) a0_0 a0_1 a0_2 l0_3 a0_4 a0_5 a0_6 a0_7)) = some r := h
  clear h
  have HC3 := Aside0.mk H
  clear H
  go_enter Tryd.func54, Tryd.ntmps54
  go_upto_region 3 with (first | ((with_reducible refine gate_dst (N := 2) rfl ?_); refine box_event ?hg (N := 2) ?hd (cs := #[.int .i64 a0_0, .int .i64 a0_1, .int .i64 a0_2, .slice A0_3 l0_3.length c0_3, .string a0_4, .int .i64 a0_5, .int .i64 a0_6, .int .i64 a0_7]) (t := 39) ?hr ?_; (case hd => rfl); (case hg => rfl); (case hr => first | (go_simp; done) | (go_simp; rfl)); intro gb104 hg w4 hbox hb; have n0_ := Aside0.mk (below_step (by repeat (first | (with_reducible first | exact HB.out | apply below_alloc | apply pw_below_drewN | apply below_drew1) | exact HB.out)) hb); have n1_ := Aside0.mk (hbox); have n2_ := Aside0.mk ((by rw [hg]; exact (below_size (by repeat (first | (with_reducible first | exact HB.out | apply below_alloc | apply pw_below_drewN | apply below_drew1) | exact HB.out))) : w.heap.size ≤ gb104)); have n3_ := Aside0.mk ((by rw [hg]; exact (below_size (by repeat (first | (with_reducible first | exact HB.out | apply below_alloc | apply pw_below_drewN | apply below_drew1) | exact HB.out))) : w.heap.size ≤ gb104)); clear HB; have HB := n0_; have BK104 := n1_; have GW104 := n2_; have GE104 := n3_; clear n0_ n1_ n2_ n3_; clear hb hbox hg; have hcz5_0 : w4.cell? ⟨gb104, 0, none⟩ = some (.int .i64 a0_0) := (blk_cell BK104.out 0).trans rfl; have hcz5_1 : w4.cell? ⟨gb104, 1, none⟩ = some (.int .i64 a0_1) := (blk_cell BK104.out 1).trans rfl; have hcz5_2 : w4.cell? ⟨gb104, 2, none⟩ = some (.int .i64 a0_2) := (blk_cell BK104.out 2).trans rfl; have hcz5_3 : w4.cell? ⟨gb104, 3, none⟩ = some (.slice A0_3 l0_3.length c0_3) := (blk_cell BK104.out 3).trans rfl; have hcz5_4 : w4.cell? ⟨gb104, 4, none⟩ = some (.string a0_4) := (blk_cell BK104.out 4).trans rfl; have hcz5_5 : w4.cell? ⟨gb104, 5, none⟩ = some (.int .i64 a0_5) := (blk_cell BK104.out 5).trans rfl; have hcz5_6 : w4.cell? ⟨gb104, 6, none⟩ = some (.int .i64 a0_6) := (blk_cell BK104.out 6).trans rfl; have hcz5_7 : w4.cell? ⟨gb104, 7, none⟩ = some (.int .i64 a0_7) := (blk_cell BK104.out 7).trans rfl; have hfz5_0 := blk_frozen BK104.out 0; have hfz5_1 := blk_frozen BK104.out 1; have hfz5_2 := blk_frozen BK104.out 2; have hfz5_3 := blk_frozen BK104.out 3; have hfz5_4 := blk_frozen BK104.out 4; have hfz5_5 := blk_frozen BK104.out 5; have hfz5_6 := blk_frozen BK104.out 6; have hfz5_7 := blk_frozen BK104.out 7))
  repeat (go_quiet (first | ((with_reducible refine gate_dst (N := 2) rfl ?_); refine box_event ?hg (N := 2) ?hd (cs := #[.int .i64 a0_0, .int .i64 a0_1, .int .i64 a0_2, .slice A0_3 l0_3.length c0_3, .string a0_4, .int .i64 a0_5, .int .i64 a0_6, .int .i64 a0_7]) (t := 39) ?hr ?_; (case hd => rfl); (case hg => rfl); (case hr => first | (go_simp; done) | (go_simp; rfl)); intro gb104 hg w4 hbox hb; have n0_ := Aside0.mk (below_step (by repeat (first | (with_reducible first | exact HB.out | apply below_alloc | apply pw_below_drewN | apply below_drew1) | exact HB.out)) hb); have n1_ := Aside0.mk (hbox); have n2_ := Aside0.mk ((by rw [hg]; exact (below_size (by repeat (first | (with_reducible first | exact HB.out | apply below_alloc | apply pw_below_drewN | apply below_drew1) | exact HB.out))) : w.heap.size ≤ gb104)); have n3_ := Aside0.mk ((by rw [hg]; exact (below_size (by repeat (first | (with_reducible first | exact HB.out | apply below_alloc | apply pw_below_drewN | apply below_drew1) | exact HB.out))) : w.heap.size ≤ gb104)); clear HB; have HB := n0_; have BK104 := n1_; have GW104 := n2_; have GE104 := n3_; clear n0_ n1_ n2_ n3_; clear hb hbox hg; have hcz5_0 : w4.cell? ⟨gb104, 0, none⟩ = some (.int .i64 a0_0) := (blk_cell BK104.out 0).trans rfl; have hcz5_1 : w4.cell? ⟨gb104, 1, none⟩ = some (.int .i64 a0_1) := (blk_cell BK104.out 1).trans rfl; have hcz5_2 : w4.cell? ⟨gb104, 2, none⟩ = some (.int .i64 a0_2) := (blk_cell BK104.out 2).trans rfl; have hcz5_3 : w4.cell? ⟨gb104, 3, none⟩ = some (.slice A0_3 l0_3.length c0_3) := (blk_cell BK104.out 3).trans rfl; have hcz5_4 : w4.cell? ⟨gb104, 4, none⟩ = some (.string a0_4) := (blk_cell BK104.out 4).trans rfl; have hcz5_5 : w4.cell? ⟨gb104, 5, none⟩ = some (.int .i64 a0_5) := (blk_cell BK104.out 5).trans rfl; have hcz5_6 : w4.cell? ⟨gb104, 6, none⟩ = some (.int .i64 a0_6) := (blk_cell BK104.out 6).trans rfl; have hcz5_7 : w4.cell? ⟨gb104, 7, none⟩ = some (.int .i64 a0_7) := (blk_cell BK104.out 7).trans rfl; have hfz5_0 := blk_frozen BK104.out 0; have hfz5_1 := blk_frozen BK104.out 1; have hfz5_2 := blk_frozen BK104.out 2; have hfz5_3 := blk_frozen BK104.out 3; have hfz5_4 := blk_frozen BK104.out 4; have hfz5_5 := blk_frozen BK104.out 5; have hfz5_6 := blk_frozen BK104.out 6; have hfz5_7 := blk_frozen BK104.out 7)); go_upto_region 3 with (first | ((with_reducible refine gate_dst (N := 2) rfl ?_); refine box_event ?hg (N := 2) ?hd (cs := #[.int .i64 a0_0, .int .i64 a0_1, .int .i64 a0_2, .slice A0_3 l0_3.length c0_3, .string a0_4, .int .i64 a0_5, .int .i64 a0_6, .int .i64 a0_7]) (t := 39) ?hr ?_; (case hd => rfl); (case hg => rfl); (case hr => first | (go_simp; done) | (go_simp; rfl)); intro gb104 hg w4 hbox hb; have n0_ := Aside0.mk (below_step (by repeat (first | (with_reducible first | exact HB.out | apply below_alloc | apply pw_below_drewN | apply below_drew1) | exact HB.out)) hb); have n1_ := Aside0.mk (hbox); have n2_ := Aside0.mk ((by rw [hg]; exact (below_size (by repeat (first | (with_reducible first | exact HB.out | apply below_alloc | apply pw_below_drewN | apply below_drew1) | exact HB.out))) : w.heap.size ≤ gb104)); have n3_ := Aside0.mk ((by rw [hg]; exact (below_size (by repeat (first | (with_reducible first | exact HB.out | apply below_alloc | apply pw_below_drewN | apply below_drew1) | exact HB.out))) : w.heap.size ≤ gb104)); clear HB; have HB := n0_; have BK104 := n1_; have GW104 := n2_; have GE104 := n3_; clear n0_ n1_ n2_ n3_; clear hb hbox hg; have hcz5_0 : w4.cell? ⟨gb104, 0, none⟩ = some (.int .i64 a0_0) := (blk_cell BK104.out 0).trans rfl; have hcz5_1 : w4.cell? ⟨gb104, 1, none⟩ = some (.int .i64 a0_1) := (blk_cell BK104.out 1).trans rfl; have hcz5_2 : w4.cell? ⟨gb104, 2, none⟩ = some (.int .i64 a0_2) := (blk_cell BK104.out 2).trans rfl; have hcz5_3 : w4.cell? ⟨gb104, 3, none⟩ = some (.slice A0_3 l0_3.length c0_3) := (blk_cell BK104.out 3).trans rfl; have hcz5_4 : w4.cell? ⟨gb104, 4, none⟩ = some (.string a0_4) := (blk_cell BK104.out 4).trans rfl; have hcz5_5 : w4.cell? ⟨gb104, 5, none⟩ = some (.int .i64 a0_5) := (blk_cell BK104.out 5).trans rfl; have hcz5_6 : w4.cell? ⟨gb104, 6, none⟩ = some (.int .i64 a0_6) := (blk_cell BK104.out 6).trans rfl; have hcz5_7 : w4.cell? ⟨gb104, 7, none⟩ = some (.int .i64 a0_7) := (blk_cell BK104.out 7).trans rfl; have hfz5_0 := blk_frozen BK104.out 0; have hfz5_1 := blk_frozen BK104.out 1; have hfz5_2 := blk_frozen BK104.out 2; have hfz5_3 := blk_frozen BK104.out 3; have hfz5_4 := blk_frozen BK104.out 4; have hfz5_5 := blk_frozen BK104.out 5; have hfz5_6 := blk_frozen BK104.out 6; have hfz5_7 := blk_frozen BK104.out 7)))
  (try simp only [Act.put, List.setIfInBounds_toArray, List.set_cons_zero, List.set_cons_succ])
  go_cut [14] (fun v14 wc => ∃ (kq : Nat) (x14_2 : Bool), v14 = .bool x14_2 ∧ Aside0 (lower_operated.j0 kq l1 (l1.length : Int) a0_1 x14_2 a0_0 a0_1 a0_2 l0_3 a0_4 a0_5 a0_6 a0_7 = some r) ∧ Aside0 (kq ≤ k) ∧ Aside0 (wc.heap[gb104]? = some (.cells #[.int .i64 a0_0, .int .i64 a0_1, .int .i64 a0_2, (.slice A0_3 l0_3.length c0_3), .string a0_4, .int .i64 a0_5, .int .i64 a0_6, .int .i64 a0_7] 39 (0, 0))) ∧ Aside0 (Below w.heap.size w wc))
  case first =>
    have H := HC3.out
    clear HC3
    by_cases c6 : a0_1 = 7
    · rw [if_pos c6] at H
      have c6b0 : (a0_1 == 7) = true := beq_iff_eq.mpr c6
      have c6b1 : (a0_1 != 7) = false := bne_eq_false_iff_eq.mpr c6
      clear c6
      (first | rw [c6b0] | (simp only [i64_w, i32_w]; rw [c6b0]) | skip)
      have H' := Aside0.mk H
      clear H
      go_wp2
      repeat (go_quiet (fail); try go_wp2)
      go_meet
      case rel => exact ⟨_, (true), (by first | rfl | (simp; done) | (simp [*]; done)), H', ⟨by first | omega | exact Nat.le_refl _⟩, ⟨by (with_reducible repeat (first | refine blk_drewN ?_ _ | refine blk_drew ?_ | refine blk_alloc ?_ _)); exact BK104.out⟩, ⟨by repeat (first | (with_reducible first | exact HB.out | apply below_alloc | apply pw_below_drewN | apply below_drew1 | refine below_set ?_ GE104.out) | exact HB.out)⟩⟩
    · rw [if_neg c6] at H
      have c6b0 : (a0_1 == 7) = false := beq_eq_false_iff_ne.mpr c6
      have c6b1 : (a0_1 != 7) = true := bne_iff_ne.mpr c6
      (first | rw [c6b0] | (simp only [i64_w, i32_w]; rw [c6b0]) | skip)
      have H' := Aside0.mk H
      clear H
      go_wp2
      repeat (go_quiet (fail); try go_wp2)
      go_meet
      case rel => exact ⟨_, ((a0_1 == 9)), (by first | rfl | (simp; done) | (simp [*]; done)), H', ⟨by first | omega | exact Nat.le_refl _⟩, ⟨by (with_reducible repeat (first | refine blk_drewN ?_ _ | refine blk_drew ?_ | refine blk_alloc ?_ _)); exact BK104.out⟩, ⟨by repeat (first | (with_reducible first | exact HB.out | apply below_alloc | apply pw_below_drewN | apply below_drew1 | refine below_set ?_ GE104.out) | exact HB.out)⟩⟩
  case rest =>
    clear HC3
    try clear c1
    try clear p2
    try clear c5
    try clear c6
    try clear c6b0
    try clear c6b1
    try clear hcz5_0
    try clear hcz5_1
    try clear hcz5_2
    try clear hcz5_3
    try clear hcz5_4
    try clear hcz5_5
    try clear hcz5_6
    try clear hcz5_7
    try clear hfz5_0
    try clear hfz5_1
    try clear hfz5_2
    try clear hfz5_3
    try clear hfz5_4
    try clear hfz5_5
    try clear hfz5_6
    try clear hfz5_7
    obtain ⟨kq, x14_2, rfl, HA, HJ2, BK104, HB⟩ := hcut
    cases kq with
    | zero => exact absurd HA.out (by simp [lower_operated.j0])
    | succ kj2 =>
      have H := HA.out
      clear HA
      simp only [lower_operated.j0] at H
      by_cases c7 : x14_2 = true
      · subst c7
        have H1 : (if (l1.length : Int) = 1 then (if 0 < (l1.length : Int) then (some (rd l1 0)) else (none)) else (some 0)) = some r := by rw [if_pos rfl] at H; exact H
        clear H
        have H := H1
        clear H1
        by_cases c8 : (l1.length : Int) = 1
        · rw [if_pos c8] at H
          have c8b0 : ((l1.length : Int) == 1) = true := beq_iff_eq.mpr c8
          have c8b1 : ((l1.length : Int) != 1) = false := bne_eq_false_iff_eq.mpr c8
          clear c8
          by_cases c9 : 0 < (l1.length : Int)
          · rw [if_pos c9] at H
            have c9b0 : decide (0 < (l1.length : Int)) = true := decide_eq_true c9
            have c9b1 : decide (0 < l1.length) = true := decide_eq_true (by omega)
            clear c9
            obtain rfl := Option.some.inj H
            have p105 : 0 ≤ (0 : Int) := (by omega)
            have q105 : 0 < (l1.length : Int) := of_decide_eq_true (by first | (with_reducible assumption) | assumption)
            obtain ⟨ad105, e105, hx105_0⟩ := Kd.at_int HR1.out 0 p105 q105
            cases e105
            have qi105 : (0 < l1.length) = True := eq_true (by omega)
            (try rw [show ((0 : Int)).toNat = 0 from rfl] at hx105_0)
            (try rw [Addr.add_zero'] at hx105_0)
            replace hx105_0 := (HB.out.cell (World.block_lt_of_cell? w _ hx105_0)).trans hx105_0
            replace p105 := eq_true p105
            replace q105 := eq_true q105
            go_wp2
            repeat (go_quiet (fail); try go_wp2)
            go_ret
            exact ⟨by first | rfl | (simp [errW_none, errW_some] <;> rfl) | (simp [*, errW_none, errW_some] <;> rfl), by repeat (first | (with_reducible first | exact HB.out | apply below_alloc | apply pw_below_drewN | apply below_drew1 | refine below_set ?_ GE104.out) | exact HB.out)⟩
          · rw [if_neg c9] at H
            exact absurd H (by simp)
        · rw [if_neg c8] at H
          have c8b0 : ((l1.length : Int) == 1) = false := beq_eq_false_iff_ne.mpr c8
          have c8b1 : ((l1.length : Int) != 1) = true := bne_iff_ne.mpr c8
          obtain rfl := Option.some.inj H
          go_wp2
          repeat (go_quiet (fail); try go_wp2)
          go_ret
          exact ⟨by first | rfl | (simp [errW_none, errW_some] <;> rfl) | (simp [*, errW_none, errW_some] <;> rfl), by repeat (first | (with_reducible first | exact HB.out | apply below_alloc | apply pw_below_drewN | apply below_drew1 | refine below_set ?_ GE104.out) | exact HB.out)⟩
      · replace c7 := Bool.eq_false_iff.mpr c7
        subst c7
        have H1 : (if a0_1 ≥ 7 then (lower_operated.j1 kj2 l1 (l1.length : Int) a0_1 (decide (a0_1 ≤ 12)) a0_0 a0_1 a0_2 l0_3 a0_4 a0_5 a0_6 a0_7) else (lower_operated.j1 kj2 l1 (l1.length : Int) a0_1 false a0_0 a0_1 a0_2 l0_3 a0_4 a0_5 a0_6 a0_7)) = some r := by rw [if_neg (show ¬ (false = true) by decide)] at H; exact H
        clear H
        have H := H1
        clear H1
        have HC10 := Aside0.mk H
        clear H
        go_upto_region 6 with (fail)
        repeat (go_quiet (fail); go_upto_region 6 with (fail))
        go_cut [26] (fun v26 wc => ∃ (kq : Nat) (x26_9 : Bool), v26 = .bool x26_9 ∧ Aside0 (lower_operated.j1 kq l1 (l1.length : Int) a0_1 x26_9 a0_0 a0_1 a0_2 l0_3 a0_4 a0_5 a0_6 a0_7 = some r) ∧ Aside0 (kq ≤ kj2) ∧ Aside0 (wc.heap[gb104]? = some (.cells #[.int .i64 a0_0, .int .i64 a0_1, .int .i64 a0_2, (.slice A0_3 l0_3.length c0_3), .string a0_4, .int .i64 a0_5, .int .i64 a0_6, .int .i64 a0_7] 39 (0, 0))) ∧ Aside0 (Below w.heap.size w wc))
        case first =>
          have H := HC10.out
          clear HC10
          by_cases c11 : a0_1 ≥ 7
          · rw [if_pos c11] at H
            have c11b0 : decide (7 ≤ a0_1) = true := decide_eq_true c11
            clear c11
            (first | rw [c11b0] | (simp only [i64_w, i32_w]; rw [c11b0]) | skip)
            have H' := Aside0.mk H
            clear H
            go_wp2
            repeat (go_quiet (fail); try go_wp2)
            go_meet
            case rel => exact ⟨_, (decide (a0_1 ≤ 12)), (by first | rfl | (simp; done) | (simp [*]; done)), H', ⟨by have := HJ2.out; first | omega | exact Nat.le_refl _⟩, ⟨by (with_reducible repeat (first | refine blk_drewN ?_ _ | refine blk_drew ?_ | refine blk_alloc ?_ _)); exact BK104.out⟩, ⟨by repeat (first | (with_reducible first | exact HB.out | apply below_alloc | apply pw_below_drewN | apply below_drew1 | refine below_set ?_ GE104.out) | exact HB.out)⟩⟩
          · rw [if_neg c11] at H
            have c11b0 : decide (7 ≤ a0_1) = false := decide_eq_false c11
            clear c11
            (first | rw [c11b0] | (simp only [i64_w, i32_w]; rw [c11b0]) | skip)
            have H' := Aside0.mk H
            clear H
            go_wp2
            repeat (go_quiet (fail); try go_wp2)
            go_meet
            case rel => exact ⟨_, (false), (by first | rfl | (simp; done) | (simp [*]; done)), H', ⟨by have := HJ2.out; first | omega | exact Nat.le_refl _⟩, ⟨by (with_reducible repeat (first | refine blk_drewN ?_ _ | refine blk_drew ?_ | refine blk_alloc ?_ _)); exact BK104.out⟩, ⟨by repeat (first | (with_reducible first | exact HB.out | apply below_alloc | apply pw_below_drewN | apply below_drew1 | refine below_set ?_ GE104.out) | exact HB.out)⟩⟩
        case rest =>
          clear HC10
          try clear c1
          try clear p1
          try clear q1
          try clear hx1
          try clear qi1
          try clear p2
          try clear c5
          try clear c6
          try clear c6b0
          try clear c6b1
          try clear c7
          try clear c8
          try clear c8b0
          try clear c8b1
          try clear c9
          try clear c9b0
          try clear c9b1
          try clear p10
          try clear q10
          try clear hx10
          try clear qi10
          try clear c11
          try clear c11b0
          try clear hcz5_0
          try clear hcz5_1
          try clear hcz5_2
          try clear hcz5_3
          try clear hcz5_4
          try clear hcz5_5
          try clear hcz5_6
          try clear hcz5_7
          try clear hfz5_0
          try clear hfz5_1
          try clear hfz5_2
          try clear hfz5_3
          try clear hfz5_4
          try clear hfz5_5
          try clear hfz5_6
          try clear hfz5_7
          try clear hx105_0
          try clear p105
          try clear p2
          try clear q105
          obtain ⟨kq, x26_9, rfl, HA, HJ9, BK104, HB⟩ := hcut
          cases kq with
          | zero => exact absurd HA.out (by simp [lower_operated.j1])
          | succ kj9 =>
            have H := HA.out
            clear HA
            simp only [lower_operated.j1] at H
            by_cases c12 : x26_9 = true
            · subst c12
              have H1 : ((lower_is.f ((l1.length : Int) == 1)).bind fun t106 => (some t106)) = some r := by rw [if_pos rfl] at H; exact H
              clear H
              have H := H1
              clear H1
              replace H := Option.bind_eq_some_iff.mp H
              obtain ⟨t106, A130, H⟩ := H
              replace H : (some t106) = some r := H
              have A13 := Aside0.mk A130
              clear A130
              obtain rfl := Option.some.inj H
              go_wp2_with (first | (go_at_call 58; (with_reducible refine (lower_is.calls ((l1.length : Int) == 1) t106 _ A13.out).mono ?_); rintro e w' ⟨rfl, ⟨nd, rfl⟩⟩; (try first | exact ⟨rfl, _, World.drewN_drewN _ _ _⟩ | exact ⟨rfl, _, Eq.trans (World.drewN_drewN _ _ _) (congrArg (World.drewN _) (Nat.add_assoc _ _ _))⟩)))
              repeat (go_quiet (first | (go_at_call 58; (with_reducible refine (lower_is.calls ((l1.length : Int) == 1) t106 _ A13.out).mono ?_); rintro e w' ⟨rfl, ⟨nd, rfl⟩⟩; (try first | exact ⟨rfl, _, World.drewN_drewN _ _ _⟩ | exact ⟨rfl, _, Eq.trans (World.drewN_drewN _ _ _) (congrArg (World.drewN _) (Nat.add_assoc _ _ _))⟩))); try go_wp2_with (first | (go_at_call 58; (with_reducible refine (lower_is.calls ((l1.length : Int) == 1) t106 _ A13.out).mono ?_); rintro e w' ⟨rfl, ⟨nd, rfl⟩⟩; (try first | exact ⟨rfl, _, World.drewN_drewN _ _ _⟩ | exact ⟨rfl, _, Eq.trans (World.drewN_drewN _ _ _) (congrArg (World.drewN _) (Nat.add_assoc _ _ _))⟩))))
              go_ret
              exact ⟨by first | rfl | (simp [errW_none, errW_some] <;> rfl) | (simp [*, errW_none, errW_some] <;> rfl), by repeat (first | (with_reducible first | exact HB.out | apply below_alloc | apply pw_below_drewN | apply below_drew1 | refine below_set ?_ GE104.out) | exact HB.out)⟩
            · replace c12 := Bool.eq_false_iff.mpr c12
              subst c12
              have H1 : (if a0_1 = 15 then (lower_operated.j2 kj9 l1 (l1.length : Int) a0_1 true a0_0 a0_1 a0_2 l0_3 a0_4 a0_5 a0_6 a0_7) else (lower_operated.j2 kj9 l1 (l1.length : Int) a0_1 (a0_1 == 16) a0_0 a0_1 a0_2 l0_3 a0_4 a0_5 a0_6 a0_7)) = some r := by rw [if_neg (show ¬ (false = true) by decide)] at H; exact H
              clear H
              have H := H1
              clear H1
              have HC14 := Aside0.mk H
              clear H
              go_upto_region 8 with (fail)
              repeat (go_quiet (fail); go_upto_region 8 with (fail))
              go_cut [36] (fun v36 wc => ∃ (kq : Nat) (x36_13 : Bool), v36 = .bool x36_13 ∧ Aside0 (lower_operated.j2 kq l1 (l1.length : Int) a0_1 x36_13 a0_0 a0_1 a0_2 l0_3 a0_4 a0_5 a0_6 a0_7 = some r) ∧ Aside0 (kq ≤ kj9) ∧ Aside0 (wc.heap[gb104]? = some (.cells #[.int .i64 a0_0, .int .i64 a0_1, .int .i64 a0_2, (.slice A0_3 l0_3.length c0_3), .string a0_4, .int .i64 a0_5, .int .i64 a0_6, .int .i64 a0_7] 39 (0, 0))) ∧ Aside0 (Below w.heap.size w wc))
              case first =>
                have H := HC14.out
                clear HC14
                by_cases c15 : a0_1 = 15
                · rw [if_pos c15] at H
                  have c15b0 : (a0_1 == 15) = true := beq_iff_eq.mpr c15
                  have c15b1 : (a0_1 != 15) = false := bne_eq_false_iff_eq.mpr c15
                  clear c15
                  (first | rw [c15b0] | (simp only [i64_w, i32_w]; rw [c15b0]) | skip)
                  have H' := Aside0.mk H
                  clear H
                  go_wp2
                  repeat (go_quiet (fail); try go_wp2)
                  go_meet
                  case rel => exact ⟨_, (true), (by first | rfl | (simp; done) | (simp [*]; done)), H', ⟨by have := HJ2.out; have := HJ9.out; first | omega | exact Nat.le_refl _⟩, ⟨by (with_reducible repeat (first | refine blk_drewN ?_ _ | refine blk_drew ?_ | refine blk_alloc ?_ _)); exact BK104.out⟩, ⟨by repeat (first | (with_reducible first | exact HB.out | apply below_alloc | apply pw_below_drewN | apply below_drew1 | refine below_set ?_ GE104.out) | exact HB.out)⟩⟩
                · rw [if_neg c15] at H
                  have c15b0 : (a0_1 == 15) = false := beq_eq_false_iff_ne.mpr c15
                  have c15b1 : (a0_1 != 15) = true := bne_iff_ne.mpr c15
                  (first | rw [c15b0] | (simp only [i64_w, i32_w]; rw [c15b0]) | skip)
                  have H' := Aside0.mk H
                  clear H
                  go_wp2
                  repeat (go_quiet (fail); try go_wp2)
                  go_meet
                  case rel => exact ⟨_, ((a0_1 == 16)), (by first | rfl | (simp; done) | (simp [*]; done)), H', ⟨by have := HJ2.out; have := HJ9.out; first | omega | exact Nat.le_refl _⟩, ⟨by (with_reducible repeat (first | refine blk_drewN ?_ _ | refine blk_drew ?_ | refine blk_alloc ?_ _)); exact BK104.out⟩, ⟨by repeat (first | (with_reducible first | exact HB.out | apply below_alloc | apply pw_below_drewN | apply below_drew1 | refine below_set ?_ GE104.out) | exact HB.out)⟩⟩
              case rest =>
                clear HC14
                try clear c1
                try clear p1
                try clear q1
                try clear hx1
                try clear qi1
                try clear p2
                try clear c5
                try clear c6
                try clear c6b0
                try clear c6b1
                try clear c7
                try clear c8
                try clear c8b0
                try clear c8b1
                try clear c9
                try clear c9b0
                try clear c9b1
                try clear p10
                try clear q10
                try clear hx10
                try clear qi10
                try clear c11
                try clear c11b0
                try clear c12
                try clear c15
                try clear c15b0
                try clear c15b1
                try clear hcz5_0
                try clear hcz5_1
                try clear hcz5_2
                try clear hcz5_3
                try clear hcz5_4
                try clear hcz5_5
                try clear hcz5_6
                try clear hcz5_7
                try clear hfz5_0
                try clear hfz5_1
                try clear hfz5_2
                try clear hfz5_3
                try clear hfz5_4
                try clear hfz5_5
                try clear hfz5_6
                try clear hfz5_7
                try clear hx105_0
                try clear p1
                try clear p10
                try clear p105
                try clear p2
                try clear q1
                try clear q10
                try clear q105
                obtain ⟨kq, x36_13, rfl, HA, HJ13, BK104, HB⟩ := hcut
                cases kq with
                | zero => exact absurd HA.out (by simp [lower_operated.j2])
                | succ kj13 =>
                  have H := HA.out
                  clear HA
                  simp only [lower_operated.j2] at H
                  by_cases c16 : x36_13 = true
                  · subst c16
                    have H1 : (if (l1.length : Int) = 2 then (if 0 < (l1.length : Int) then (some (rd l1 0)) else (none)) else (some 0)) = some r := by rw [if_pos rfl] at H; exact H
                    clear H
                    have H := H1
                    clear H1
                    by_cases c17 : (l1.length : Int) = 2
                    · rw [if_pos c17] at H
                      have c17b0 : ((l1.length : Int) == 2) = true := beq_iff_eq.mpr c17
                      have c17b1 : ((l1.length : Int) != 2) = false := bne_eq_false_iff_eq.mpr c17
                      clear c17
                      by_cases c18 : 0 < (l1.length : Int)
                      · rw [if_pos c18] at H
                        have c18b0 : decide (0 < (l1.length : Int)) = true := decide_eq_true c18
                        have c18b1 : decide (0 < l1.length) = true := decide_eq_true (by omega)
                        clear c18
                        obtain rfl := Option.some.inj H
                        have p107 : 0 ≤ (0 : Int) := (by omega)
                        have q107 : 0 < (l1.length : Int) := of_decide_eq_true (by first | (with_reducible assumption) | assumption)
                        obtain ⟨ad107, e107, hx107_0⟩ := Kd.at_int HR1.out 0 p107 q107
                        cases e107
                        have qi107 : (0 < l1.length) = True := eq_true (by omega)
                        (try rw [show ((0 : Int)).toNat = 0 from rfl] at hx107_0)
                        (try rw [Addr.add_zero'] at hx107_0)
                        replace hx107_0 := (HB.out.cell (World.block_lt_of_cell? w _ hx107_0)).trans hx107_0
                        replace p107 := eq_true p107
                        replace q107 := eq_true q107
                        go_wp2
                        repeat (go_quiet (fail); try go_wp2)
                        go_ret
                        exact ⟨by first | rfl | (simp [errW_none, errW_some] <;> rfl) | (simp [*, errW_none, errW_some] <;> rfl), by repeat (first | (with_reducible first | exact HB.out | apply below_alloc | apply pw_below_drewN | apply below_drew1 | refine below_set ?_ GE104.out) | exact HB.out)⟩
                      · rw [if_neg c18] at H
                        exact absurd H (by simp)
                    · rw [if_neg c17] at H
                      have c17b0 : ((l1.length : Int) == 2) = false := beq_eq_false_iff_ne.mpr c17
                      have c17b1 : ((l1.length : Int) != 2) = true := bne_iff_ne.mpr c17
                      obtain rfl := Option.some.inj H
                      go_wp2
                      repeat (go_quiet (fail); try go_wp2)
                      go_ret
                      exact ⟨by first | rfl | (simp [errW_none, errW_some] <;> rfl) | (simp [*, errW_none, errW_some] <;> rfl), by repeat (first | (with_reducible first | exact HB.out | apply below_alloc | apply pw_below_drewN | apply below_drew1 | refine below_set ?_ GE104.out) | exact HB.out)⟩
                  · replace c16 := Bool.eq_false_iff.mpr c16
                    subst c16
                    have H1 : (if a0_1 = 13 then (lower_operated.j3 kj13 l1 (l1.length : Int) a0_1 true a0_0 a0_1 a0_2 l0_3 a0_4 a0_5 a0_6 a0_7) else (if a0_1 = 14 then (lower_operated.j3 kj13 l1 (l1.length : Int) a0_1 true a0_0 a0_1 a0_2 l0_3 a0_4 a0_5 a0_6 a0_7) else (if a0_1 = 23 then (lower_operated.j3 kj13 l1 (l1.length : Int) a0_1 true a0_0 a0_1 a0_2 l0_3 a0_4 a0_5 a0_6 a0_7) else (if a0_1 = 25 then (lower_operated.j3 kj13 l1 (l1.length : Int) a0_1 true a0_0 a0_1 a0_2 l0_3 a0_4 a0_5 a0_6 a0_7) else (lower_operated.j3 kj13 l1 (l1.length : Int) a0_1 (a0_1 == 24) a0_0 a0_1 a0_2 l0_3 a0_4 a0_5 a0_6 a0_7))))) = some r := by rw [if_neg (show ¬ (false = true) by decide)] at H; exact H
                    clear H
                    have H := H1
                    clear H1
                    have HC19 := Aside0.mk H
                    clear H
                    go_upto_region 11 with (fail)
                    repeat (go_quiet (fail); go_upto_region 11 with (fail))
                    go_cut [48] (fun v48 wc => ∃ (kq : Nat) (x48_18 : Bool), v48 = .bool x48_18 ∧ Aside0 (lower_operated.j3 kq l1 (l1.length : Int) a0_1 x48_18 a0_0 a0_1 a0_2 l0_3 a0_4 a0_5 a0_6 a0_7 = some r) ∧ Aside0 (kq ≤ kj13) ∧ Aside0 (wc.heap[gb104]? = some (.cells #[.int .i64 a0_0, .int .i64 a0_1, .int .i64 a0_2, (.slice A0_3 l0_3.length c0_3), .string a0_4, .int .i64 a0_5, .int .i64 a0_6, .int .i64 a0_7] 39 (0, 0))) ∧ Aside0 (Below w.heap.size w wc))
                    case first =>
                      have H := HC19.out
                      clear HC19
                      by_cases c20 : a0_1 = 13
                      · rw [if_pos c20] at H
                        have c20b0 : (a0_1 == 13) = true := beq_iff_eq.mpr c20
                        have c20b1 : (a0_1 != 13) = false := bne_eq_false_iff_eq.mpr c20
                        clear c20
                        (first | rw [c20b0] | (simp only [i64_w, i32_w]; rw [c20b0]) | skip)
                        have H' := Aside0.mk H
                        clear H
                        go_wp2
                        repeat (go_quiet (fail); try go_wp2)
                        go_meet
                        case rel => exact ⟨_, (true), (by first | rfl | (simp; done) | (simp [*]; done)), H', ⟨by have := HJ2.out; have := HJ9.out; have := HJ13.out; first | omega | exact Nat.le_refl _⟩, ⟨by (with_reducible repeat (first | refine blk_drewN ?_ _ | refine blk_drew ?_ | refine blk_alloc ?_ _)); exact BK104.out⟩, ⟨by repeat (first | (with_reducible first | exact HB.out | apply below_alloc | apply pw_below_drewN | apply below_drew1 | refine below_set ?_ GE104.out) | exact HB.out)⟩⟩
                      · rw [if_neg c20] at H
                        have c20b0 : (a0_1 == 13) = false := beq_eq_false_iff_ne.mpr c20
                        have c20b1 : (a0_1 != 13) = true := bne_iff_ne.mpr c20
                        (first | rw [c20b0] | (simp only [i64_w, i32_w]; rw [c20b0]) | skip)
                        by_cases c21 : a0_1 = 14
                        · rw [if_pos c21] at H
                          have c21b0 : (a0_1 == 14) = true := beq_iff_eq.mpr c21
                          have c21b1 : (a0_1 != 14) = false := bne_eq_false_iff_eq.mpr c21
                          clear c21
                          have H' := Aside0.mk H
                          clear H
                          go_wp2
                          repeat (go_quiet (fail); try go_wp2)
                          go_meet
                          case rel => exact ⟨_, (true), (by first | rfl | (simp; done) | (simp [*]; done)), H', ⟨by have := HJ2.out; have := HJ9.out; have := HJ13.out; first | omega | exact Nat.le_refl _⟩, ⟨by (with_reducible repeat (first | refine blk_drewN ?_ _ | refine blk_drew ?_ | refine blk_alloc ?_ _)); exact BK104.out⟩, ⟨by repeat (first | (with_reducible first | exact HB.out | apply below_alloc | apply pw_below_drewN | apply below_drew1 | refine below_set ?_ GE104.out) | exact HB.out)⟩⟩
                        · rw [if_neg c21] at H
                          have c21b0 : (a0_1 == 14) = false := beq_eq_false_iff_ne.mpr c21
                          have c21b1 : (a0_1 != 14) = true := bne_iff_ne.mpr c21
                          by_cases c22 : a0_1 = 23
                          · rw [if_pos c22] at H
                            have c22b0 : (a0_1 == 23) = true := beq_iff_eq.mpr c22
                            have c22b1 : (a0_1 != 23) = false := bne_eq_false_iff_eq.mpr c22
                            clear c22
                            have H' := Aside0.mk H
                            clear H
                            go_wp2
                            repeat (go_quiet (fail); try go_wp2)
                            go_meet
                            case rel => exact ⟨_, (true), (by first | rfl | (simp; done) | (simp [*]; done)), H', ⟨by have := HJ2.out; have := HJ9.out; have := HJ13.out; first | omega | exact Nat.le_refl _⟩, ⟨by (with_reducible repeat (first | refine blk_drewN ?_ _ | refine blk_drew ?_ | refine blk_alloc ?_ _)); exact BK104.out⟩, ⟨by repeat (first | (with_reducible first | exact HB.out | apply below_alloc | apply pw_below_drewN | apply below_drew1 | refine below_set ?_ GE104.out) | exact HB.out)⟩⟩
                          · rw [if_neg c22] at H
                            have c22b0 : (a0_1 == 23) = false := beq_eq_false_iff_ne.mpr c22
                            have c22b1 : (a0_1 != 23) = true := bne_iff_ne.mpr c22
                            by_cases c23 : a0_1 = 25
                            · rw [if_pos c23] at H
                              have c23b0 : (a0_1 == 25) = true := beq_iff_eq.mpr c23
                              have c23b1 : (a0_1 != 25) = false := bne_eq_false_iff_eq.mpr c23
                              clear c23
                              have H' := Aside0.mk H
                              clear H
                              go_wp2
                              repeat (go_quiet (fail); try go_wp2)
                              go_meet
                              case rel => exact ⟨_, (true), (by first | rfl | (simp; done) | (simp [*]; done)), H', ⟨by have := HJ2.out; have := HJ9.out; have := HJ13.out; first | omega | exact Nat.le_refl _⟩, ⟨by (with_reducible repeat (first | refine blk_drewN ?_ _ | refine blk_drew ?_ | refine blk_alloc ?_ _)); exact BK104.out⟩, ⟨by repeat (first | (with_reducible first | exact HB.out | apply below_alloc | apply pw_below_drewN | apply below_drew1 | refine below_set ?_ GE104.out) | exact HB.out)⟩⟩
                            · rw [if_neg c23] at H
                              have c23b0 : (a0_1 == 25) = false := beq_eq_false_iff_ne.mpr c23
                              have c23b1 : (a0_1 != 25) = true := bne_iff_ne.mpr c23
                              have H' := Aside0.mk H
                              clear H
                              go_wp2
                              repeat (go_quiet (fail); try go_wp2)
                              go_meet
                              case rel => exact ⟨_, ((a0_1 == 24)), (by first | rfl | (simp; done) | (simp [*]; done)), H', ⟨by have := HJ2.out; have := HJ9.out; have := HJ13.out; first | omega | exact Nat.le_refl _⟩, ⟨by (with_reducible repeat (first | refine blk_drewN ?_ _ | refine blk_drew ?_ | refine blk_alloc ?_ _)); exact BK104.out⟩, ⟨by repeat (first | (with_reducible first | exact HB.out | apply below_alloc | apply pw_below_drewN | apply below_drew1 | refine below_set ?_ GE104.out) | exact HB.out)⟩⟩
                    case rest =>
                      clear HC19
                      try clear c1
                      try clear p1
                      try clear q1
                      try clear hx1
                      try clear qi1
                      try clear c2
                      try clear p2
                      try clear c5
                      try clear c6
                      try clear c6b0
                      try clear c6b1
                      try clear c7
                      try clear c8
                      try clear c8b0
                      try clear c8b1
                      try clear c9
                      try clear c9b0
                      try clear c9b1
                      try clear p10
                      try clear q10
                      try clear hx10
                      try clear qi10
                      try clear c11
                      try clear c11b0
                      try clear c12
                      try clear c15
                      try clear c15b0
                      try clear c15b1
                      try clear c16
                      try clear c17
                      try clear c17b0
                      try clear c17b1
                      try clear c18
                      try clear c18b0
                      try clear c18b1
                      try clear c20
                      try clear c20b0
                      try clear c20b1
                      try clear c21
                      try clear c21b0
                      try clear c21b1
                      try clear c22
                      try clear c22b0
                      try clear c22b1
                      try clear c23
                      try clear c23b0
                      try clear c23b1
                      try clear hcz5_0
                      try clear hcz5_1
                      try clear hcz5_2
                      try clear hcz5_3
                      try clear hcz5_4
                      try clear hcz5_5
                      try clear hcz5_6
                      try clear hcz5_7
                      try clear hfz5_0
                      try clear hfz5_1
                      try clear hfz5_2
                      try clear hfz5_3
                      try clear hfz5_4
                      try clear hfz5_5
                      try clear hfz5_6
                      try clear hfz5_7
                      try clear hx105_0
                      try clear hx107_0
                      try clear p1
                      try clear p10
                      try clear p105
                      try clear p107
                      try clear p2
                      try clear q1
                      try clear q10
                      try clear q105
                      try clear q107
                      obtain ⟨kq, x48_18, rfl, HA, HJ18, BK104, HB⟩ := hcut
                      cases kq with
                      | zero => exact absurd HA.out (by simp [lower_operated.j3])
                      | succ kj18 =>
                        have H := HA.out
                        clear HA
                        simp only [lower_operated.j3] at H
                        by_cases c24 : x48_18 = true
                        · subst c24
                          have H1 : (if (l1.length : Int) = 2 then (if 0 < (l1.length : Int) then (if 1 < (l1.length : Int) then (if (rd l1 0) = (rd l1 1) then (some (rd l1 0)) else (some 0)) else (none)) else (none)) else (some 0)) = some r := by rw [if_pos rfl] at H; exact H
                          clear H
                          have H := H1
                          clear H1
                          by_cases c25 : (l1.length : Int) = 2
                          · rw [if_pos c25] at H
                            have c25b0 : ((l1.length : Int) == 2) = true := beq_iff_eq.mpr c25
                            have c25b1 : ((l1.length : Int) != 2) = false := bne_eq_false_iff_eq.mpr c25
                            clear c25
                            by_cases c26 : 0 < (l1.length : Int)
                            · rw [if_pos c26] at H
                              have c26b0 : decide (0 < (l1.length : Int)) = true := decide_eq_true c26
                              have c26b1 : decide (0 < l1.length) = true := decide_eq_true (by omega)
                              clear c26
                              by_cases c27 : 1 < (l1.length : Int)
                              · rw [if_pos c27] at H
                                have c27b0 : decide (1 < (l1.length : Int)) = true := decide_eq_true c27
                                have c27b1 : decide (1 < l1.length) = true := decide_eq_true (by omega)
                                clear c27
                                by_cases c28 : (rd l1 0) = (rd l1 1)
                                · rw [if_pos c28] at H
                                  have c28b0 : ((rd l1 0) == (rd l1 1)) = true := beq_iff_eq.mpr c28
                                  have c28b1 : ((rd l1 0) != (rd l1 1)) = false := bne_eq_false_iff_eq.mpr c28
                                  clear c28
                                  obtain rfl := Option.some.inj H
                                  have p108 : 0 ≤ (0 : Int) := (by omega)
                                  have q108 : 0 < (l1.length : Int) := of_decide_eq_true (by first | (with_reducible assumption) | assumption)
                                  obtain ⟨ad108, e108, hx108_0⟩ := Kd.at_int HR1.out 0 p108 q108
                                  cases e108
                                  have qi108 : (0 < l1.length) = True := eq_true (by omega)
                                  (try rw [show ((0 : Int)).toNat = 0 from rfl] at hx108_0)
                                  (try rw [Addr.add_zero'] at hx108_0)
                                  replace hx108_0 := (HB.out.cell (World.block_lt_of_cell? w _ hx108_0)).trans hx108_0
                                  replace p108 := eq_true p108
                                  replace q108 := eq_true q108
                                  have p109 : 0 ≤ (1 : Int) := (by omega)
                                  have q109 : 1 < (l1.length : Int) := of_decide_eq_true (by first | (with_reducible assumption) | assumption)
                                  obtain ⟨ad109, e109, hx109_0⟩ := Kd.at_int HR1.out 1 p109 q109
                                  obtain rfl : ad108 = ad109 := (by injection e109)
                                  (try simp only [show (1 : Int).toNat = 1 from rfl, Nat.reduceMul, Nat.reduceEqDiff, Go.Addr.add, ↓reduceIte] at hx109_0)
                                  have qi109 : (1 < l1.length) = True := eq_true (by omega)
                                  (try rw [show ((1 : Int)).toNat = 1 from rfl] at hx109_0)
                                  replace hx109_0 := (HB.out.cell (World.block_lt_of_cell? w _ hx109_0)).trans hx109_0
                                  replace p109 := eq_true p109
                                  replace q109 := eq_true q109
                                  have p110 : 0 ≤ (0 : Int) := (by omega)
                                  have q110 : 0 < (l1.length : Int) := of_decide_eq_true (by first | (with_reducible assumption) | assumption)
                                  obtain ⟨ad110, e110, hx110_0⟩ := Kd.at_int HR1.out 0 p110 q110
                                  obtain rfl : ad108 = ad110 := (by injection e110)
                                  have qi110 : (0 < l1.length) = True := eq_true (by omega)
                                  (try rw [show ((0 : Int)).toNat = 0 from rfl] at hx110_0)
                                  (try rw [Addr.add_zero'] at hx110_0)
                                  replace hx110_0 := (HB.out.cell (World.block_lt_of_cell? w _ hx110_0)).trans hx110_0
                                  replace p110 := eq_true p110
                                  replace q110 := eq_true q110
                                  go_wp2
                                  repeat (go_quiet (fail); try go_wp2)
                                  go_ret
                                  exact ⟨by first | rfl | (simp [errW_none, errW_some] <;> rfl) | (simp [*, errW_none, errW_some] <;> rfl), by repeat (first | (with_reducible first | exact HB.out | apply below_alloc | apply pw_below_drewN | apply below_drew1 | refine below_set ?_ GE104.out) | exact HB.out)⟩
                                · rw [if_neg c28] at H
                                  have c28b0 : ((rd l1 0) == (rd l1 1)) = false := beq_eq_false_iff_ne.mpr c28
                                  have c28b1 : ((rd l1 0) != (rd l1 1)) = true := bne_iff_ne.mpr c28
                                  obtain rfl := Option.some.inj H
                                  have p108 : 0 ≤ (0 : Int) := (by omega)
                                  have q108 : 0 < (l1.length : Int) := of_decide_eq_true (by first | (with_reducible assumption) | assumption)
                                  obtain ⟨ad108, e108, hx108_0⟩ := Kd.at_int HR1.out 0 p108 q108
                                  cases e108
                                  have qi108 : (0 < l1.length) = True := eq_true (by omega)
                                  (try rw [show ((0 : Int)).toNat = 0 from rfl] at hx108_0)
                                  (try rw [Addr.add_zero'] at hx108_0)
                                  replace hx108_0 := (HB.out.cell (World.block_lt_of_cell? w _ hx108_0)).trans hx108_0
                                  replace p108 := eq_true p108
                                  replace q108 := eq_true q108
                                  have p109 : 0 ≤ (1 : Int) := (by omega)
                                  have q109 : 1 < (l1.length : Int) := of_decide_eq_true (by first | (with_reducible assumption) | assumption)
                                  obtain ⟨ad109, e109, hx109_0⟩ := Kd.at_int HR1.out 1 p109 q109
                                  obtain rfl : ad108 = ad109 := (by injection e109)
                                  (try simp only [show (1 : Int).toNat = 1 from rfl, Nat.reduceMul, Nat.reduceEqDiff, Go.Addr.add, ↓reduceIte] at hx109_0)
                                  have qi109 : (1 < l1.length) = True := eq_true (by omega)
                                  (try rw [show ((1 : Int)).toNat = 1 from rfl] at hx109_0)
                                  replace hx109_0 := (HB.out.cell (World.block_lt_of_cell? w _ hx109_0)).trans hx109_0
                                  replace p109 := eq_true p109
                                  replace q109 := eq_true q109
                                  go_wp2
                                  repeat (go_quiet (fail); try go_wp2)
                                  go_ret
                                  exact ⟨by first | rfl | (simp [errW_none, errW_some] <;> rfl) | (simp [*, errW_none, errW_some] <;> rfl), by repeat (first | (with_reducible first | exact HB.out | apply below_alloc | apply pw_below_drewN | apply below_drew1 | refine below_set ?_ GE104.out) | exact HB.out)⟩
                              · rw [if_neg c27] at H
                                exact absurd H (by simp)
                            · rw [if_neg c26] at H
                              exact absurd H (by simp)
                          · rw [if_neg c25] at H
                            have c25b0 : ((l1.length : Int) == 2) = false := beq_eq_false_iff_ne.mpr c25
                            have c25b1 : ((l1.length : Int) != 2) = true := bne_iff_ne.mpr c25
                            obtain rfl := Option.some.inj H
                            go_wp2
                            repeat (go_quiet (fail); try go_wp2)
                            go_ret
                            exact ⟨by first | rfl | (simp [errW_none, errW_some] <;> rfl) | (simp [*, errW_none, errW_some] <;> rfl), by repeat (first | (with_reducible first | exact HB.out | apply below_alloc | apply pw_below_drewN | apply below_drew1 | refine below_set ?_ GE104.out) | exact HB.out)⟩
                        · replace c24 := Bool.eq_false_iff.mpr c24
                          subst c24
                          have H1 : (if a0_1 ≥ 17 then (lower_operated.j4 kj18 l1 (l1.length : Int) a0_1 (decide (a0_1 ≤ 22)) a0_0 a0_1 a0_2 l0_3 a0_4 a0_5 a0_6 a0_7) else (lower_operated.j4 kj18 l1 (l1.length : Int) a0_1 false a0_0 a0_1 a0_2 l0_3 a0_4 a0_5 a0_6 a0_7)) = some r := by rw [if_neg (show ¬ (false = true) by decide)] at H; exact H
                          clear H
                          have H := H1
                          clear H1
                          have HC29 := Aside0.mk H
                          clear H
                          go_upto_region 14 with (fail)
                          repeat (go_quiet (fail); go_upto_region 14 with (fail))
                          go_cut [81] (fun v81 wc => ∃ (kq : Nat) (x81_28 : Bool), v81 = .bool x81_28 ∧ Aside0 (lower_operated.j4 kq l1 (l1.length : Int) a0_1 x81_28 a0_0 a0_1 a0_2 l0_3 a0_4 a0_5 a0_6 a0_7 = some r) ∧ Aside0 (kq ≤ kj18) ∧ Aside0 (wc.heap[gb104]? = some (.cells #[.int .i64 a0_0, .int .i64 a0_1, .int .i64 a0_2, (.slice A0_3 l0_3.length c0_3), .string a0_4, .int .i64 a0_5, .int .i64 a0_6, .int .i64 a0_7] 39 (0, 0))) ∧ Aside0 (Below w.heap.size w wc))
                          case first =>
                            have H := HC29.out
                            clear HC29
                            by_cases c30 : a0_1 ≥ 17
                            · rw [if_pos c30] at H
                              have c30b0 : decide (17 ≤ a0_1) = true := decide_eq_true c30
                              clear c30
                              (first | rw [c30b0] | (simp only [i64_w, i32_w]; rw [c30b0]) | skip)
                              have H' := Aside0.mk H
                              clear H
                              go_wp2
                              repeat (go_quiet (fail); try go_wp2)
                              go_meet
                              case rel => exact ⟨_, (decide (a0_1 ≤ 22)), (by first | rfl | (simp; done) | (simp [*]; done)), H', ⟨by have := HJ2.out; have := HJ9.out; have := HJ13.out; have := HJ18.out; first | omega | exact Nat.le_refl _⟩, ⟨by (with_reducible repeat (first | refine blk_drewN ?_ _ | refine blk_drew ?_ | refine blk_alloc ?_ _)); exact BK104.out⟩, ⟨by repeat (first | (with_reducible first | exact HB.out | apply below_alloc | apply pw_below_drewN | apply below_drew1 | refine below_set ?_ GE104.out) | exact HB.out)⟩⟩
                            · rw [if_neg c30] at H
                              have c30b0 : decide (17 ≤ a0_1) = false := decide_eq_false c30
                              clear c30
                              (first | rw [c30b0] | (simp only [i64_w, i32_w]; rw [c30b0]) | skip)
                              have H' := Aside0.mk H
                              clear H
                              go_wp2
                              repeat (go_quiet (fail); try go_wp2)
                              go_meet
                              case rel => exact ⟨_, (false), (by first | rfl | (simp; done) | (simp [*]; done)), H', ⟨by have := HJ2.out; have := HJ9.out; have := HJ13.out; have := HJ18.out; first | omega | exact Nat.le_refl _⟩, ⟨by (with_reducible repeat (first | refine blk_drewN ?_ _ | refine blk_drew ?_ | refine blk_alloc ?_ _)); exact BK104.out⟩, ⟨by repeat (first | (with_reducible first | exact HB.out | apply below_alloc | apply pw_below_drewN | apply below_drew1 | refine below_set ?_ GE104.out) | exact HB.out)⟩⟩
                          case rest =>
                            clear HC29
                            try clear c1
                            try clear p1
                            try clear q1
                            try clear hx1
                            try clear qi1
                            try clear c2
                            try clear p2
                            try clear c3
                            try clear c5
                            try clear c6
                            try clear c6b0
                            try clear c6b1
                            try clear c7
                            try clear c8
                            try clear c8b0
                            try clear c8b1
                            try clear c9
                            try clear c9b0
                            try clear c9b1
                            try clear p10
                            try clear q10
                            try clear hx10
                            try clear qi10
                            try clear c11
                            try clear c11b0
                            try clear p11
                            try clear q11
                            try clear hx11
                            try clear qi11
                            try clear c12
                            try clear c15
                            try clear c15b0
                            try clear c15b1
                            try clear c16
                            try clear c17
                            try clear c17b0
                            try clear c17b1
                            try clear c18
                            try clear c18b0
                            try clear c18b1
                            try clear c20
                            try clear c20b0
                            try clear c20b1
                            try clear c21
                            try clear c21b0
                            try clear c21b1
                            try clear c22
                            try clear c22b0
                            try clear c22b1
                            try clear c23
                            try clear c23b0
                            try clear c23b1
                            try clear c24
                            try clear c25
                            try clear c25b0
                            try clear c25b1
                            try clear c26
                            try clear c26b0
                            try clear c26b1
                            try clear c27
                            try clear c27b0
                            try clear c27b1
                            try clear c28
                            try clear c28b0
                            try clear c28b1
                            try clear c30
                            try clear c30b0
                            try clear hcz5_0
                            try clear hcz5_1
                            try clear hcz5_2
                            try clear hcz5_3
                            try clear hcz5_4
                            try clear hcz5_5
                            try clear hcz5_6
                            try clear hcz5_7
                            try clear hfz5_0
                            try clear hfz5_1
                            try clear hfz5_2
                            try clear hfz5_3
                            try clear hfz5_4
                            try clear hfz5_5
                            try clear hfz5_6
                            try clear hfz5_7
                            try clear hx105_0
                            try clear hx107_0
                            try clear hx108_0
                            try clear hx109_0
                            try clear hx110_0
                            try clear p1
                            try clear p10
                            try clear p105
                            try clear p107
                            try clear p108
                            try clear p109
                            try clear p110
                            try clear p2
                            try clear q1
                            try clear q10
                            try clear q105
                            try clear q107
                            try clear q108
                            try clear q109
                            try clear q110
                            obtain ⟨kq, x81_28, rfl, HA, HJ28, BK104, HB⟩ := hcut
                            cases kq with
                            | zero => exact absurd HA.out (by simp [lower_operated.j4])
                            | succ kj28 =>
                              have H := HA.out
                              clear HA
                              simp only [lower_operated.j4] at H
                              by_cases c31 : x81_28 = true
                              · subst c31
                                have H1 : (if (l1.length : Int) = 2 then (if 0 < (l1.length : Int) then (if 1 < (l1.length : Int) then ((lower_is.f ((rd l1 0) == (rd l1 1))).bind fun t113 => (some t113)) else (none)) else (none)) else ((lower_is.f false).bind fun t114 => (some t114))) = some r := by rw [if_pos rfl] at H; exact H
                                clear H
                                have H := H1
                                clear H1
                                by_cases c32 : (l1.length : Int) = 2
                                · rw [if_pos c32] at H
                                  have c32b0 : ((l1.length : Int) == 2) = true := beq_iff_eq.mpr c32
                                  have c32b1 : ((l1.length : Int) != 2) = false := bne_eq_false_iff_eq.mpr c32
                                  clear c32
                                  by_cases c33 : 0 < (l1.length : Int)
                                  · rw [if_pos c33] at H
                                    have c33b0 : decide (0 < (l1.length : Int)) = true := decide_eq_true c33
                                    have c33b1 : decide (0 < l1.length) = true := decide_eq_true (by omega)
                                    clear c33
                                    by_cases c34 : 1 < (l1.length : Int)
                                    · rw [if_pos c34] at H
                                      have c34b0 : decide (1 < (l1.length : Int)) = true := decide_eq_true c34
                                      have c34b1 : decide (1 < l1.length) = true := decide_eq_true (by omega)
                                      clear c34
                                      replace H := Option.bind_eq_some_iff.mp H
                                      obtain ⟨t113, A350, H⟩ := H
                                      replace H : (some t113) = some r := H
                                      have A35 := Aside0.mk A350
                                      clear A350
                                      obtain rfl := Option.some.inj H
                                      have p111 : 0 ≤ (0 : Int) := (by omega)
                                      have q111 : 0 < (l1.length : Int) := of_decide_eq_true (by first | (with_reducible assumption) | assumption)
                                      obtain ⟨ad111, e111, hx111_0⟩ := Kd.at_int HR1.out 0 p111 q111
                                      cases e111
                                      have qi111 : (0 < l1.length) = True := eq_true (by omega)
                                      (try rw [show ((0 : Int)).toNat = 0 from rfl] at hx111_0)
                                      (try rw [Addr.add_zero'] at hx111_0)
                                      replace hx111_0 := (HB.out.cell (World.block_lt_of_cell? w _ hx111_0)).trans hx111_0
                                      replace p111 := eq_true p111
                                      replace q111 := eq_true q111
                                      have p112 : 0 ≤ (1 : Int) := (by omega)
                                      have q112 : 1 < (l1.length : Int) := of_decide_eq_true (by first | (with_reducible assumption) | assumption)
                                      obtain ⟨ad112, e112, hx112_0⟩ := Kd.at_int HR1.out 1 p112 q112
                                      obtain rfl : ad111 = ad112 := (by injection e112)
                                      (try simp only [show (1 : Int).toNat = 1 from rfl, Nat.reduceMul, Nat.reduceEqDiff, Go.Addr.add, ↓reduceIte] at hx112_0)
                                      have qi112 : (1 < l1.length) = True := eq_true (by omega)
                                      (try rw [show ((1 : Int)).toNat = 1 from rfl] at hx112_0)
                                      replace hx112_0 := (HB.out.cell (World.block_lt_of_cell? w _ hx112_0)).trans hx112_0
                                      replace p112 := eq_true p112
                                      replace q112 := eq_true q112
                                      go_wp2_with (first | (go_at_call 58; (with_reducible refine (lower_is.calls ((rd l1 0) == (rd l1 1)) t113 _ A35.out).mono ?_); rintro e w' ⟨rfl, ⟨nd, rfl⟩⟩; (try first | exact ⟨rfl, _, World.drewN_drewN _ _ _⟩ | exact ⟨rfl, _, Eq.trans (World.drewN_drewN _ _ _) (congrArg (World.drewN _) (Nat.add_assoc _ _ _))⟩)))
                                      repeat (go_quiet (first | (go_at_call 58; (with_reducible refine (lower_is.calls ((rd l1 0) == (rd l1 1)) t113 _ A35.out).mono ?_); rintro e w' ⟨rfl, ⟨nd, rfl⟩⟩; (try first | exact ⟨rfl, _, World.drewN_drewN _ _ _⟩ | exact ⟨rfl, _, Eq.trans (World.drewN_drewN _ _ _) (congrArg (World.drewN _) (Nat.add_assoc _ _ _))⟩))); try go_wp2_with (first | (go_at_call 58; (with_reducible refine (lower_is.calls ((rd l1 0) == (rd l1 1)) t113 _ A35.out).mono ?_); rintro e w' ⟨rfl, ⟨nd, rfl⟩⟩; (try first | exact ⟨rfl, _, World.drewN_drewN _ _ _⟩ | exact ⟨rfl, _, Eq.trans (World.drewN_drewN _ _ _) (congrArg (World.drewN _) (Nat.add_assoc _ _ _))⟩))))
                                      go_ret
                                      exact ⟨by first | rfl | (simp [errW_none, errW_some] <;> rfl) | (simp [*, errW_none, errW_some] <;> rfl), by repeat (first | (with_reducible first | exact HB.out | apply below_alloc | apply pw_below_drewN | apply below_drew1 | refine below_set ?_ GE104.out) | exact HB.out)⟩
                                    · rw [if_neg c34] at H
                                      exact absurd H (by simp)
                                  · rw [if_neg c33] at H
                                    exact absurd H (by simp)
                                · rw [if_neg c32] at H
                                  have c32b0 : ((l1.length : Int) == 2) = false := beq_eq_false_iff_ne.mpr c32
                                  have c32b1 : ((l1.length : Int) != 2) = true := bne_iff_ne.mpr c32
                                  replace H := Option.bind_eq_some_iff.mp H
                                  obtain ⟨t114, A360, H⟩ := H
                                  replace H : (some t114) = some r := H
                                  have A36 := Aside0.mk A360
                                  clear A360
                                  obtain rfl := Option.some.inj H
                                  go_wp2_with (first | (go_at_call 58; (with_reducible refine (lower_is.calls false t114 _ A36.out).mono ?_); rintro e w' ⟨rfl, ⟨nd, rfl⟩⟩; (try first | exact ⟨rfl, _, World.drewN_drewN _ _ _⟩ | exact ⟨rfl, _, Eq.trans (World.drewN_drewN _ _ _) (congrArg (World.drewN _) (Nat.add_assoc _ _ _))⟩)))
                                  repeat (go_quiet (first | (go_at_call 58; (with_reducible refine (lower_is.calls false t114 _ A36.out).mono ?_); rintro e w' ⟨rfl, ⟨nd, rfl⟩⟩; (try first | exact ⟨rfl, _, World.drewN_drewN _ _ _⟩ | exact ⟨rfl, _, Eq.trans (World.drewN_drewN _ _ _) (congrArg (World.drewN _) (Nat.add_assoc _ _ _))⟩))); try go_wp2_with (first | (go_at_call 58; (with_reducible refine (lower_is.calls false t114 _ A36.out).mono ?_); rintro e w' ⟨rfl, ⟨nd, rfl⟩⟩; (try first | exact ⟨rfl, _, World.drewN_drewN _ _ _⟩ | exact ⟨rfl, _, Eq.trans (World.drewN_drewN _ _ _) (congrArg (World.drewN _) (Nat.add_assoc _ _ _))⟩))))
                                  go_ret
                                  exact ⟨by first | rfl | (simp [errW_none, errW_some] <;> rfl) | (simp [*, errW_none, errW_some] <;> rfl), by repeat (first | (with_reducible first | exact HB.out | apply below_alloc | apply pw_below_drewN | apply below_drew1 | refine below_set ?_ GE104.out) | exact HB.out)⟩
                              · replace c31 := Bool.eq_false_iff.mpr c31
                                subst c31
                                have H1 : (if a0_1 = 26 then (lower_operated.j5 kj28 l1 (l1.length : Int) a0_1 true a0_0 a0_1 a0_2 l0_3 a0_4 a0_5 a0_6 a0_7) else (if a0_1 = 27 then (lower_operated.j5 kj28 l1 (l1.length : Int) a0_1 true a0_0 a0_1 a0_2 l0_3 a0_4 a0_5 a0_6 a0_7) else (lower_operated.j5 kj28 l1 (l1.length : Int) a0_1 (a0_1 == 3) a0_0 a0_1 a0_2 l0_3 a0_4 a0_5 a0_6 a0_7))) = some r := by rw [if_neg (show ¬ (false = true) by decide)] at H; exact H
                                clear H
                                have H := H1
                                clear H1
                                have HC37 := Aside0.mk H
                                clear H
                                go_upto_region 16 with (fail)
                                repeat (go_quiet (fail); go_upto_region 16 with (fail))
                                go_cut [100] (fun v100 wc => ∃ (kq : Nat) (x100_36 : Bool), v100 = .bool x100_36 ∧ Aside0 (lower_operated.j5 kq l1 (l1.length : Int) a0_1 x100_36 a0_0 a0_1 a0_2 l0_3 a0_4 a0_5 a0_6 a0_7 = some r) ∧ Aside0 (kq ≤ kj28) ∧ Aside0 (wc.heap[gb104]? = some (.cells #[.int .i64 a0_0, .int .i64 a0_1, .int .i64 a0_2, (.slice A0_3 l0_3.length c0_3), .string a0_4, .int .i64 a0_5, .int .i64 a0_6, .int .i64 a0_7] 39 (0, 0))) ∧ Aside0 (Below w.heap.size w wc))
                                case first =>
                                  have H := HC37.out
                                  clear HC37
                                  by_cases c38 : a0_1 = 26
                                  · rw [if_pos c38] at H
                                    have c38b0 : (a0_1 == 26) = true := beq_iff_eq.mpr c38
                                    have c38b1 : (a0_1 != 26) = false := bne_eq_false_iff_eq.mpr c38
                                    clear c38
                                    (first | rw [c38b0] | (simp only [i64_w, i32_w]; rw [c38b0]) | skip)
                                    have H' := Aside0.mk H
                                    clear H
                                    go_wp2
                                    repeat (go_quiet (fail); try go_wp2)
                                    go_meet
                                    case rel => exact ⟨_, (true), (by first | rfl | (simp; done) | (simp [*]; done)), H', ⟨by have := HJ2.out; have := HJ9.out; have := HJ13.out; have := HJ18.out; have := HJ28.out; first | omega | exact Nat.le_refl _⟩, ⟨by (with_reducible repeat (first | refine blk_drewN ?_ _ | refine blk_drew ?_ | refine blk_alloc ?_ _)); exact BK104.out⟩, ⟨by repeat (first | (with_reducible first | exact HB.out | apply below_alloc | apply pw_below_drewN | apply below_drew1 | refine below_set ?_ GE104.out) | exact HB.out)⟩⟩
                                  · rw [if_neg c38] at H
                                    have c38b0 : (a0_1 == 26) = false := beq_eq_false_iff_ne.mpr c38
                                    have c38b1 : (a0_1 != 26) = true := bne_iff_ne.mpr c38
                                    (first | rw [c38b0] | (simp only [i64_w, i32_w]; rw [c38b0]) | skip)
                                    by_cases c39 : a0_1 = 27
                                    · rw [if_pos c39] at H
                                      have c39b0 : (a0_1 == 27) = true := beq_iff_eq.mpr c39
                                      have c39b1 : (a0_1 != 27) = false := bne_eq_false_iff_eq.mpr c39
                                      clear c39
                                      have H' := Aside0.mk H
                                      clear H
                                      go_wp2
                                      repeat (go_quiet (fail); try go_wp2)
                                      go_meet
                                      case rel => exact ⟨_, (true), (by first | rfl | (simp; done) | (simp [*]; done)), H', ⟨by have := HJ2.out; have := HJ9.out; have := HJ13.out; have := HJ18.out; have := HJ28.out; first | omega | exact Nat.le_refl _⟩, ⟨by (with_reducible repeat (first | refine blk_drewN ?_ _ | refine blk_drew ?_ | refine blk_alloc ?_ _)); exact BK104.out⟩, ⟨by repeat (first | (with_reducible first | exact HB.out | apply below_alloc | apply pw_below_drewN | apply below_drew1 | refine below_set ?_ GE104.out) | exact HB.out)⟩⟩
                                    · rw [if_neg c39] at H
                                      have c39b0 : (a0_1 == 27) = false := beq_eq_false_iff_ne.mpr c39
                                      have c39b1 : (a0_1 != 27) = true := bne_iff_ne.mpr c39
                                      have H' := Aside0.mk H
                                      clear H
                                      go_wp2
                                      repeat (go_quiet (fail); try go_wp2)
                                      go_meet
                                      case rel => exact ⟨_, ((a0_1 == 3)), (by first | rfl | (simp; done) | (simp [*]; done)), H', ⟨by have := HJ2.out; have := HJ9.out; have := HJ13.out; have := HJ18.out; have := HJ28.out; first | omega | exact Nat.le_refl _⟩, ⟨by (with_reducible repeat (first | refine blk_drewN ?_ _ | refine blk_drew ?_ | refine blk_alloc ?_ _)); exact BK104.out⟩, ⟨by repeat (first | (with_reducible first | exact HB.out | apply below_alloc | apply pw_below_drewN | apply below_drew1 | refine below_set ?_ GE104.out) | exact HB.out)⟩⟩
                                case rest =>
                                  clear HC37
                                  try clear c1
                                  try clear p1
                                  try clear q1
                                  try clear hx1
                                  try clear qi1
                                  try clear c2
                                  try clear p2
                                  try clear c3
                                  try clear c5
                                  try clear c6
                                  try clear c6b0
                                  try clear c6b1
                                  try clear c7
                                  try clear c8
                                  try clear c8b0
                                  try clear c8b1
                                  try clear c9
                                  try clear c9b0
                                  try clear c9b1
                                  try clear p10
                                  try clear q10
                                  try clear hx10
                                  try clear qi10
                                  try clear c11
                                  try clear c11b0
                                  try clear p11
                                  try clear q11
                                  try clear hx11
                                  try clear qi11
                                  try clear c12
                                  try clear c15
                                  try clear c15b0
                                  try clear c15b1
                                  try clear c16
                                  try clear c17
                                  try clear c17b0
                                  try clear c17b1
                                  try clear c18
                                  try clear c18b0
                                  try clear c18b1
                                  try clear c20
                                  try clear c20b0
                                  try clear c20b1
                                  try clear c21
                                  try clear c21b0
                                  try clear c21b1
                                  try clear c22
                                  try clear c22b0
                                  try clear c22b1
                                  try clear c23
                                  try clear c23b0
                                  try clear c23b1
                                  try clear c24
                                  try clear c25
                                  try clear c25b0
                                  try clear c25b1
                                  try clear c26
                                  try clear c26b0
                                  try clear c26b1
                                  try clear c27
                                  try clear c27b0
                                  try clear c27b1
                                  try clear c28
                                  try clear c28b0
                                  try clear c28b1
                                  try clear c30
                                  try clear c30b0
                                  try clear c31
                                  try clear c32
                                  try clear c32b0
                                  try clear c32b1
                                  try clear c33
                                  try clear c33b0
                                  try clear c33b1
                                  try clear c34
                                  try clear c34b0
                                  try clear c34b1
                                  try clear c38
                                  try clear c38b0
                                  try clear c38b1
                                  try clear c39
                                  try clear c39b0
                                  try clear c39b1
                                  try clear hcz5_0
                                  try clear hcz5_1
                                  try clear hcz5_2
                                  try clear hcz5_3
                                  try clear hcz5_4
                                  try clear hcz5_5
                                  try clear hcz5_6
                                  try clear hcz5_7
                                  try clear hfz5_0
                                  try clear hfz5_1
                                  try clear hfz5_2
                                  try clear hfz5_3
                                  try clear hfz5_4
                                  try clear hfz5_5
                                  try clear hfz5_6
                                  try clear hfz5_7
                                  try clear hx105_0
                                  try clear hx107_0
                                  try clear hx108_0
                                  try clear hx109_0
                                  try clear hx110_0
                                  try clear hx111_0
                                  try clear hx112_0
                                  try clear p1
                                  try clear p10
                                  try clear p105
                                  try clear p107
                                  try clear p108
                                  try clear p109
                                  try clear p11
                                  try clear p110
                                  try clear p111
                                  try clear p112
                                  try clear p2
                                  try clear q1
                                  try clear q10
                                  try clear q105
                                  try clear q107
                                  try clear q108
                                  try clear q109
                                  try clear q11
                                  try clear q110
                                  try clear q111
                                  try clear q112
                                  obtain ⟨kq, x100_36, rfl, HA, HJ36, BK104, HB⟩ := hcut
                                  cases kq with
                                  | zero => exact absurd HA.out (by simp [lower_operated.j5])
                                  | succ kj36 =>
                                    have H := HA.out
                                    clear HA
                                    simp only [lower_operated.j5] at H
                                    by_cases c40 : x100_36 = true
                                    · subst c40
                                      have H1 : ((lower_is.f ((l1.length : Int) == 2)).bind fun t115 => (some t115)) = some r := by rw [if_pos rfl] at H; exact H
                                      clear H
                                      have H := H1
                                      clear H1
                                      replace H := Option.bind_eq_some_iff.mp H
                                      obtain ⟨t115, A410, H⟩ := H
                                      replace H : (some t115) = some r := H
                                      have A41 := Aside0.mk A410
                                      clear A410
                                      obtain rfl := Option.some.inj H
                                      go_wp2_with (first | (go_at_call 58; (with_reducible refine (lower_is.calls ((l1.length : Int) == 2) t115 _ A41.out).mono ?_); rintro e w' ⟨rfl, ⟨nd, rfl⟩⟩; (try first | exact ⟨rfl, _, World.drewN_drewN _ _ _⟩ | exact ⟨rfl, _, Eq.trans (World.drewN_drewN _ _ _) (congrArg (World.drewN _) (Nat.add_assoc _ _ _))⟩)))
                                      repeat (go_quiet (first | (go_at_call 58; (with_reducible refine (lower_is.calls ((l1.length : Int) == 2) t115 _ A41.out).mono ?_); rintro e w' ⟨rfl, ⟨nd, rfl⟩⟩; (try first | exact ⟨rfl, _, World.drewN_drewN _ _ _⟩ | exact ⟨rfl, _, Eq.trans (World.drewN_drewN _ _ _) (congrArg (World.drewN _) (Nat.add_assoc _ _ _))⟩))); try go_wp2_with (first | (go_at_call 58; (with_reducible refine (lower_is.calls ((l1.length : Int) == 2) t115 _ A41.out).mono ?_); rintro e w' ⟨rfl, ⟨nd, rfl⟩⟩; (try first | exact ⟨rfl, _, World.drewN_drewN _ _ _⟩ | exact ⟨rfl, _, Eq.trans (World.drewN_drewN _ _ _) (congrArg (World.drewN _) (Nat.add_assoc _ _ _))⟩))))
                                      go_ret
                                      exact ⟨by first | rfl | (simp [errW_none, errW_some] <;> rfl) | (simp [*, errW_none, errW_some] <;> rfl), by repeat (first | (with_reducible first | exact HB.out | apply below_alloc | apply pw_below_drewN | apply below_drew1 | refine below_set ?_ GE104.out) | exact HB.out)⟩
                                    · replace c40 := Bool.eq_false_iff.mpr c40
                                      subst c40
                                      have H1 : (if a0_1 = 6 then (if (l1.length : Int) = 3 then (if 1 < (l1.length : Int) then (if 2 < (l1.length : Int) then (if (rd l1 1) = (rd l1 2) then (some (rd l1 1)) else (some 0)) else (none)) else (none)) else (some 0)) else (if a0_1 = 4 then (if (l1.length : Int) = 1 then (if a0_6 ≥ 0 then (if a0_5 ≥ a0_6 then (if 0 < (l1.length : Int) then (if a0_5 < (rd l1 0) then (some (wrap64 ((wrap64 (a0_5 - a0_6)) + 1))) else (some 0)) else (none)) else (some 0)) else (some 0)) else (some 0)) else (if a0_1 = 5 then (lower_operated.l0 kj36 0 l1 (l1.length : Int) 0) else (some 0)))) = some r := by rw [if_neg (show ¬ (false = true) by decide)] at H; exact H
                                      clear H
                                      have H := H1
                                      clear H1
                                      by_cases c42 : a0_1 = 6
                                      · rw [if_pos c42] at H
                                        have c42b0 : (a0_1 == 6) = true := beq_iff_eq.mpr c42
                                        have c42b1 : (a0_1 != 6) = false := bne_eq_false_iff_eq.mpr c42
                                        clear c42
                                        by_cases c43 : (l1.length : Int) = 3
                                        · rw [if_pos c43] at H
                                          have c43b0 : ((l1.length : Int) == 3) = true := beq_iff_eq.mpr c43
                                          have c43b1 : ((l1.length : Int) != 3) = false := bne_eq_false_iff_eq.mpr c43
                                          clear c43
                                          by_cases c44 : 1 < (l1.length : Int)
                                          · rw [if_pos c44] at H
                                            have c44b0 : decide (1 < (l1.length : Int)) = true := decide_eq_true c44
                                            have c44b1 : decide (1 < l1.length) = true := decide_eq_true (by omega)
                                            clear c44
                                            by_cases c45 : 2 < (l1.length : Int)
                                            · rw [if_pos c45] at H
                                              have c45b0 : decide (2 < (l1.length : Int)) = true := decide_eq_true c45
                                              have c45b1 : decide (2 < l1.length) = true := decide_eq_true (by omega)
                                              clear c45
                                              by_cases c46 : (rd l1 1) = (rd l1 2)
                                              · rw [if_pos c46] at H
                                                have c46b0 : ((rd l1 1) == (rd l1 2)) = true := beq_iff_eq.mpr c46
                                                have c46b1 : ((rd l1 1) != (rd l1 2)) = false := bne_eq_false_iff_eq.mpr c46
                                                clear c46
                                                obtain rfl := Option.some.inj H
                                                have p116 : 0 ≤ (1 : Int) := (by omega)
                                                have q116 : 1 < (l1.length : Int) := of_decide_eq_true (by first | (with_reducible assumption) | assumption)
                                                obtain ⟨ad116, e116, hx116_0⟩ := Kd.at_int HR1.out 1 p116 q116
                                                cases e116
                                                (try simp only [show (1 : Int).toNat = 1 from rfl, Nat.reduceMul, Nat.reduceEqDiff, Go.Addr.add, ↓reduceIte] at hx116_0)
                                                have qi116 : (1 < l1.length) = True := eq_true (by omega)
                                                (try rw [show ((1 : Int)).toNat = 1 from rfl] at hx116_0)
                                                replace hx116_0 := (HB.out.cell (World.block_lt_of_cell? w _ hx116_0)).trans hx116_0
                                                replace p116 := eq_true p116
                                                replace q116 := eq_true q116
                                                have p117 : 0 ≤ (2 : Int) := (by omega)
                                                have q117 : 2 < (l1.length : Int) := of_decide_eq_true (by first | (with_reducible assumption) | assumption)
                                                obtain ⟨ad117, e117, hx117_0⟩ := Kd.at_int HR1.out 2 p117 q117
                                                obtain rfl : ad116 = ad117 := (by injection e117)
                                                (try simp only [show (2 : Int).toNat = 2 from rfl, Nat.reduceMul, Nat.reduceEqDiff, Go.Addr.add, ↓reduceIte] at hx117_0)
                                                have qi117 : (2 < l1.length) = True := eq_true (by omega)
                                                (try rw [show ((2 : Int)).toNat = 2 from rfl] at hx117_0)
                                                replace hx117_0 := (HB.out.cell (World.block_lt_of_cell? w _ hx117_0)).trans hx117_0
                                                replace p117 := eq_true p117
                                                replace q117 := eq_true q117
                                                have p118 : 0 ≤ (1 : Int) := (by omega)
                                                have q118 : 1 < (l1.length : Int) := of_decide_eq_true (by first | (with_reducible assumption) | assumption)
                                                obtain ⟨ad118, e118, hx118_0⟩ := Kd.at_int HR1.out 1 p118 q118
                                                obtain rfl : ad116 = ad118 := (by injection e118)
                                                (try simp only [show (1 : Int).toNat = 1 from rfl, Nat.reduceMul, Nat.reduceEqDiff, Go.Addr.add, ↓reduceIte] at hx118_0)
                                                have qi118 : (1 < l1.length) = True := eq_true (by omega)
                                                (try rw [show ((1 : Int)).toNat = 1 from rfl] at hx118_0)
                                                replace hx118_0 := (HB.out.cell (World.block_lt_of_cell? w _ hx118_0)).trans hx118_0
                                                replace p118 := eq_true p118
                                                replace q118 := eq_true q118
                                                go_wp2
                                                repeat (go_quiet (fail); try go_wp2)
                                                go_ret
                                                exact ⟨by first | rfl | (simp [errW_none, errW_some] <;> rfl) | (simp [*, errW_none, errW_some] <;> rfl), by repeat (first | (with_reducible first | exact HB.out | apply below_alloc | apply pw_below_drewN | apply below_drew1 | refine below_set ?_ GE104.out) | exact HB.out)⟩
                                              · rw [if_neg c46] at H
                                                have c46b0 : ((rd l1 1) == (rd l1 2)) = false := beq_eq_false_iff_ne.mpr c46
                                                have c46b1 : ((rd l1 1) != (rd l1 2)) = true := bne_iff_ne.mpr c46
                                                obtain rfl := Option.some.inj H
                                                have p116 : 0 ≤ (1 : Int) := (by omega)
                                                have q116 : 1 < (l1.length : Int) := of_decide_eq_true (by first | (with_reducible assumption) | assumption)
                                                obtain ⟨ad116, e116, hx116_0⟩ := Kd.at_int HR1.out 1 p116 q116
                                                cases e116
                                                (try simp only [show (1 : Int).toNat = 1 from rfl, Nat.reduceMul, Nat.reduceEqDiff, Go.Addr.add, ↓reduceIte] at hx116_0)
                                                have qi116 : (1 < l1.length) = True := eq_true (by omega)
                                                (try rw [show ((1 : Int)).toNat = 1 from rfl] at hx116_0)
                                                replace hx116_0 := (HB.out.cell (World.block_lt_of_cell? w _ hx116_0)).trans hx116_0
                                                replace p116 := eq_true p116
                                                replace q116 := eq_true q116
                                                have p117 : 0 ≤ (2 : Int) := (by omega)
                                                have q117 : 2 < (l1.length : Int) := of_decide_eq_true (by first | (with_reducible assumption) | assumption)
                                                obtain ⟨ad117, e117, hx117_0⟩ := Kd.at_int HR1.out 2 p117 q117
                                                obtain rfl : ad116 = ad117 := (by injection e117)
                                                (try simp only [show (2 : Int).toNat = 2 from rfl, Nat.reduceMul, Nat.reduceEqDiff, Go.Addr.add, ↓reduceIte] at hx117_0)
                                                have qi117 : (2 < l1.length) = True := eq_true (by omega)
                                                (try rw [show ((2 : Int)).toNat = 2 from rfl] at hx117_0)
                                                replace hx117_0 := (HB.out.cell (World.block_lt_of_cell? w _ hx117_0)).trans hx117_0
                                                replace p117 := eq_true p117
                                                replace q117 := eq_true q117
                                                go_wp2
                                                repeat (go_quiet (fail); try go_wp2)
                                                go_ret
                                                exact ⟨by first | rfl | (simp [errW_none, errW_some] <;> rfl) | (simp [*, errW_none, errW_some] <;> rfl), by repeat (first | (with_reducible first | exact HB.out | apply below_alloc | apply pw_below_drewN | apply below_drew1 | refine below_set ?_ GE104.out) | exact HB.out)⟩
                                            · rw [if_neg c45] at H
                                              exact absurd H (by simp)
                                          · rw [if_neg c44] at H
                                            exact absurd H (by simp)
                                        · rw [if_neg c43] at H
                                          have c43b0 : ((l1.length : Int) == 3) = false := beq_eq_false_iff_ne.mpr c43
                                          have c43b1 : ((l1.length : Int) != 3) = true := bne_iff_ne.mpr c43
                                          obtain rfl := Option.some.inj H
                                          go_wp2
                                          repeat (go_quiet (fail); try go_wp2)
                                          go_ret
                                          exact ⟨by first | rfl | (simp [errW_none, errW_some] <;> rfl) | (simp [*, errW_none, errW_some] <;> rfl), by repeat (first | (with_reducible first | exact HB.out | apply below_alloc | apply pw_below_drewN | apply below_drew1 | refine below_set ?_ GE104.out) | exact HB.out)⟩
                                      · rw [if_neg c42] at H
                                        have c42b0 : (a0_1 == 6) = false := beq_eq_false_iff_ne.mpr c42
                                        have c42b1 : (a0_1 != 6) = true := bne_iff_ne.mpr c42
                                        by_cases c47 : a0_1 = 4
                                        · rw [if_pos c47] at H
                                          have c47b0 : (a0_1 == 4) = true := beq_iff_eq.mpr c47
                                          have c47b1 : (a0_1 != 4) = false := bne_eq_false_iff_eq.mpr c47
                                          clear c47
                                          by_cases c48 : (l1.length : Int) = 1
                                          · rw [if_pos c48] at H
                                            have c48b0 : ((l1.length : Int) == 1) = true := beq_iff_eq.mpr c48
                                            have c48b1 : ((l1.length : Int) != 1) = false := bne_eq_false_iff_eq.mpr c48
                                            clear c48
                                            by_cases c49 : a0_6 ≥ 0
                                            · rw [if_pos c49] at H
                                              have c49b0 : decide (0 ≤ a0_6) = true := decide_eq_true c49
                                              clear c49
                                              by_cases c50 : a0_5 ≥ a0_6
                                              · rw [if_pos c50] at H
                                                have c50b0 : decide (a0_6 ≤ a0_5) = true := decide_eq_true c50
                                                clear c50
                                                by_cases c51 : 0 < (l1.length : Int)
                                                · rw [if_pos c51] at H
                                                  have c51b0 : decide (0 < (l1.length : Int)) = true := decide_eq_true c51
                                                  have c51b1 : decide (0 < l1.length) = true := decide_eq_true (by omega)
                                                  clear c51
                                                  by_cases c52 : a0_5 < (rd l1 0)
                                                  · rw [if_pos c52] at H
                                                    have c52b0 : decide (a0_5 < (rd l1 0)) = true := decide_eq_true c52
                                                    clear c52
                                                    obtain rfl := Option.some.inj H
                                                    have hcz53_0 : wc.cell? ⟨gb104, 0, none⟩ = some (.int .i64 a0_0) := (blk_cell BK104.out 0).trans rfl
                                                    have hcz53_1 : wc.cell? ⟨gb104, 1, none⟩ = some (.int .i64 a0_1) := (blk_cell BK104.out 1).trans rfl
                                                    have hcz53_2 : wc.cell? ⟨gb104, 2, none⟩ = some (.int .i64 a0_2) := (blk_cell BK104.out 2).trans rfl
                                                    have hcz53_3 : wc.cell? ⟨gb104, 3, none⟩ = some (.slice A0_3 l0_3.length c0_3) := (blk_cell BK104.out 3).trans rfl
                                                    have hcz53_4 : wc.cell? ⟨gb104, 4, none⟩ = some (.string a0_4) := (blk_cell BK104.out 4).trans rfl
                                                    have hcz53_5 : wc.cell? ⟨gb104, 5, none⟩ = some (.int .i64 a0_5) := (blk_cell BK104.out 5).trans rfl
                                                    have hcz53_6 : wc.cell? ⟨gb104, 6, none⟩ = some (.int .i64 a0_6) := (blk_cell BK104.out 6).trans rfl
                                                    have hcz53_7 : wc.cell? ⟨gb104, 7, none⟩ = some (.int .i64 a0_7) := (blk_cell BK104.out 7).trans rfl
                                                    have hfz53_0 := blk_frozen BK104.out 0
                                                    have hfz53_1 := blk_frozen BK104.out 1
                                                    have hfz53_2 := blk_frozen BK104.out 2
                                                    have hfz53_3 := blk_frozen BK104.out 3
                                                    have hfz53_4 := blk_frozen BK104.out 4
                                                    have hfz53_5 := blk_frozen BK104.out 5
                                                    have hfz53_6 := blk_frozen BK104.out 6
                                                    have hfz53_7 := blk_frozen BK104.out 7
                                                    have p119 : 0 ≤ (0 : Int) := (by omega)
                                                    have q119 : 0 < (l1.length : Int) := of_decide_eq_true (by first | (with_reducible assumption) | assumption)
                                                    obtain ⟨ad119, e119, hx119_0⟩ := Kd.at_int HR1.out 0 p119 q119
                                                    cases e119
                                                    have qi119 : (0 < l1.length) = True := eq_true (by omega)
                                                    (try rw [show ((0 : Int)).toNat = 0 from rfl] at hx119_0)
                                                    (try rw [Addr.add_zero'] at hx119_0)
                                                    replace hx119_0 := (HB.out.cell (World.block_lt_of_cell? w _ hx119_0)).trans hx119_0
                                                    replace p119 := eq_true p119
                                                    replace q119 := eq_true q119
                                                    go_wp2
                                                    repeat (go_quiet (fail); try go_wp2)
                                                    go_ret
                                                    exact ⟨by first | rfl | (simp [errW_none, errW_some] <;> rfl) | (simp [*, errW_none, errW_some] <;> rfl), by repeat (first | (with_reducible first | exact HB.out | apply below_alloc | apply pw_below_drewN | apply below_drew1 | refine below_set ?_ GE104.out) | exact HB.out)⟩
                                                  · rw [if_neg c52] at H
                                                    have c52b0 : decide (a0_5 < (rd l1 0)) = false := decide_eq_false c52
                                                    clear c52
                                                    obtain rfl := Option.some.inj H
                                                    have hcz54_0 : wc.cell? ⟨gb104, 0, none⟩ = some (.int .i64 a0_0) := (blk_cell BK104.out 0).trans rfl
                                                    have hcz54_1 : wc.cell? ⟨gb104, 1, none⟩ = some (.int .i64 a0_1) := (blk_cell BK104.out 1).trans rfl
                                                    have hcz54_2 : wc.cell? ⟨gb104, 2, none⟩ = some (.int .i64 a0_2) := (blk_cell BK104.out 2).trans rfl
                                                    have hcz54_3 : wc.cell? ⟨gb104, 3, none⟩ = some (.slice A0_3 l0_3.length c0_3) := (blk_cell BK104.out 3).trans rfl
                                                    have hcz54_4 : wc.cell? ⟨gb104, 4, none⟩ = some (.string a0_4) := (blk_cell BK104.out 4).trans rfl
                                                    have hcz54_5 : wc.cell? ⟨gb104, 5, none⟩ = some (.int .i64 a0_5) := (blk_cell BK104.out 5).trans rfl
                                                    have hcz54_6 : wc.cell? ⟨gb104, 6, none⟩ = some (.int .i64 a0_6) := (blk_cell BK104.out 6).trans rfl
                                                    have hcz54_7 : wc.cell? ⟨gb104, 7, none⟩ = some (.int .i64 a0_7) := (blk_cell BK104.out 7).trans rfl
                                                    have hfz54_0 := blk_frozen BK104.out 0
                                                    have hfz54_1 := blk_frozen BK104.out 1
                                                    have hfz54_2 := blk_frozen BK104.out 2
                                                    have hfz54_3 := blk_frozen BK104.out 3
                                                    have hfz54_4 := blk_frozen BK104.out 4
                                                    have hfz54_5 := blk_frozen BK104.out 5
                                                    have hfz54_6 := blk_frozen BK104.out 6
                                                    have hfz54_7 := blk_frozen BK104.out 7
                                                    have p119 : 0 ≤ (0 : Int) := (by omega)
                                                    have q119 : 0 < (l1.length : Int) := of_decide_eq_true (by first | (with_reducible assumption) | assumption)
                                                    obtain ⟨ad119, e119, hx119_0⟩ := Kd.at_int HR1.out 0 p119 q119
                                                    cases e119
                                                    have qi119 : (0 < l1.length) = True := eq_true (by omega)
                                                    (try rw [show ((0 : Int)).toNat = 0 from rfl] at hx119_0)
                                                    (try rw [Addr.add_zero'] at hx119_0)
                                                    replace hx119_0 := (HB.out.cell (World.block_lt_of_cell? w _ hx119_0)).trans hx119_0
                                                    replace p119 := eq_true p119
                                                    replace q119 := eq_true q119
                                                    go_wp2
                                                    repeat (go_quiet (fail); try go_wp2)
                                                    go_ret
                                                    exact ⟨by first | rfl | (simp [errW_none, errW_some] <;> rfl) | (simp [*, errW_none, errW_some] <;> rfl), by repeat (first | (with_reducible first | exact HB.out | apply below_alloc | apply pw_below_drewN | apply below_drew1 | refine below_set ?_ GE104.out) | exact HB.out)⟩
                                                · rw [if_neg c51] at H
                                                  exact absurd H (by simp)
                                              · rw [if_neg c50] at H
                                                have c50b0 : decide (a0_6 ≤ a0_5) = false := decide_eq_false c50
                                                clear c50
                                                obtain rfl := Option.some.inj H
                                                have hcz55_0 : wc.cell? ⟨gb104, 0, none⟩ = some (.int .i64 a0_0) := (blk_cell BK104.out 0).trans rfl
                                                have hcz55_1 : wc.cell? ⟨gb104, 1, none⟩ = some (.int .i64 a0_1) := (blk_cell BK104.out 1).trans rfl
                                                have hcz55_2 : wc.cell? ⟨gb104, 2, none⟩ = some (.int .i64 a0_2) := (blk_cell BK104.out 2).trans rfl
                                                have hcz55_3 : wc.cell? ⟨gb104, 3, none⟩ = some (.slice A0_3 l0_3.length c0_3) := (blk_cell BK104.out 3).trans rfl
                                                have hcz55_4 : wc.cell? ⟨gb104, 4, none⟩ = some (.string a0_4) := (blk_cell BK104.out 4).trans rfl
                                                have hcz55_5 : wc.cell? ⟨gb104, 5, none⟩ = some (.int .i64 a0_5) := (blk_cell BK104.out 5).trans rfl
                                                have hcz55_6 : wc.cell? ⟨gb104, 6, none⟩ = some (.int .i64 a0_6) := (blk_cell BK104.out 6).trans rfl
                                                have hcz55_7 : wc.cell? ⟨gb104, 7, none⟩ = some (.int .i64 a0_7) := (blk_cell BK104.out 7).trans rfl
                                                have hfz55_0 := blk_frozen BK104.out 0
                                                have hfz55_1 := blk_frozen BK104.out 1
                                                have hfz55_2 := blk_frozen BK104.out 2
                                                have hfz55_3 := blk_frozen BK104.out 3
                                                have hfz55_4 := blk_frozen BK104.out 4
                                                have hfz55_5 := blk_frozen BK104.out 5
                                                have hfz55_6 := blk_frozen BK104.out 6
                                                have hfz55_7 := blk_frozen BK104.out 7
                                                go_wp2
                                                repeat (go_quiet (fail); try go_wp2)
                                                go_ret
                                                exact ⟨by first | rfl | (simp [errW_none, errW_some] <;> rfl) | (simp [*, errW_none, errW_some] <;> rfl), by repeat (first | (with_reducible first | exact HB.out | apply below_alloc | apply pw_below_drewN | apply below_drew1 | refine below_set ?_ GE104.out) | exact HB.out)⟩
                                            · rw [if_neg c49] at H
                                              have c49b0 : decide (0 ≤ a0_6) = false := decide_eq_false c49
                                              clear c49
                                              obtain rfl := Option.some.inj H
                                              have hcz56_0 : wc.cell? ⟨gb104, 0, none⟩ = some (.int .i64 a0_0) := (blk_cell BK104.out 0).trans rfl
                                              have hcz56_1 : wc.cell? ⟨gb104, 1, none⟩ = some (.int .i64 a0_1) := (blk_cell BK104.out 1).trans rfl
                                              have hcz56_2 : wc.cell? ⟨gb104, 2, none⟩ = some (.int .i64 a0_2) := (blk_cell BK104.out 2).trans rfl
                                              have hcz56_3 : wc.cell? ⟨gb104, 3, none⟩ = some (.slice A0_3 l0_3.length c0_3) := (blk_cell BK104.out 3).trans rfl
                                              have hcz56_4 : wc.cell? ⟨gb104, 4, none⟩ = some (.string a0_4) := (blk_cell BK104.out 4).trans rfl
                                              have hcz56_5 : wc.cell? ⟨gb104, 5, none⟩ = some (.int .i64 a0_5) := (blk_cell BK104.out 5).trans rfl
                                              have hcz56_6 : wc.cell? ⟨gb104, 6, none⟩ = some (.int .i64 a0_6) := (blk_cell BK104.out 6).trans rfl
                                              have hcz56_7 : wc.cell? ⟨gb104, 7, none⟩ = some (.int .i64 a0_7) := (blk_cell BK104.out 7).trans rfl
                                              have hfz56_0 := blk_frozen BK104.out 0
                                              have hfz56_1 := blk_frozen BK104.out 1
                                              have hfz56_2 := blk_frozen BK104.out 2
                                              have hfz56_3 := blk_frozen BK104.out 3
                                              have hfz56_4 := blk_frozen BK104.out 4
                                              have hfz56_5 := blk_frozen BK104.out 5
                                              have hfz56_6 := blk_frozen BK104.out 6
                                              have hfz56_7 := blk_frozen BK104.out 7
                                              go_wp2
                                              repeat (go_quiet (fail); try go_wp2)
                                              go_ret
                                              exact ⟨by first | rfl | (simp [errW_none, errW_some] <;> rfl) | (simp [*, errW_none, errW_some] <;> rfl), by repeat (first | (with_reducible first | exact HB.out | apply below_alloc | apply pw_below_drewN | apply below_drew1 | refine below_set ?_ GE104.out) | exact HB.out)⟩
                                          · rw [if_neg c48] at H
                                            have c48b0 : ((l1.length : Int) == 1) = false := beq_eq_false_iff_ne.mpr c48
                                            have c48b1 : ((l1.length : Int) != 1) = true := bne_iff_ne.mpr c48
                                            obtain rfl := Option.some.inj H
                                            go_wp2
                                            repeat (go_quiet (fail); try go_wp2)
                                            go_ret
                                            exact ⟨by first | rfl | (simp [errW_none, errW_some] <;> rfl) | (simp [*, errW_none, errW_some] <;> rfl), by repeat (first | (with_reducible first | exact HB.out | apply below_alloc | apply pw_below_drewN | apply below_drew1 | refine below_set ?_ GE104.out) | exact HB.out)⟩
                                        · rw [if_neg c47] at H
                                          have c47b0 : (a0_1 == 4) = false := beq_eq_false_iff_ne.mpr c47
                                          have c47b1 : (a0_1 != 4) = true := bne_iff_ne.mpr c47
                                          by_cases c57 : a0_1 = 5
                                          · rw [if_pos c57] at H
                                            have c57b0 : (a0_1 == 5) = true := beq_iff_eq.mpr c57
                                            have c57b1 : (a0_1 != 5) = false := bne_eq_false_iff_eq.mpr c57
                                            clear c57
                                            have H' := Aside0.mk H
                                            clear H
                                            go_wp2
                                            repeat (go_quiet (fail); try go_wp2)
                                            go_loopg [7, 167] kj36 (fun kq v7 v167 w' => ∃ (x7_7 : Int) (x167_7 : Int), v7 = .int .i64 x7_7 ∧ v167 = .int .i64 x167_7 ∧ Aside0 (lower_operated.l0 kq x7_7 l1 (l1.length : Int) x167_7 = some r) ∧ Aside0 (kq ≤ kj36) ∧ Aside0 (w'.heap[gb104]? = some (.cells #[.int .i64 a0_0, .int .i64 a0_1, .int .i64 a0_2, (.slice A0_3 l0_3.length c0_3), .string a0_4, .int .i64 a0_5, .int .i64 a0_6, .int .i64 a0_7] 39 (0, 0))) ∧ Aside0 (Below w.heap.size w w'))
                                            case atStart => exact ⟨(0), (0), (by first | rfl | (simp; done) | (simp [*]; done)), (by first | rfl | (simp; done) | (simp [*]; done)), H', ⟨Nat.le_refl _⟩, ⟨by (with_reducible repeat (first | refine blk_drewN ?_ _ | refine blk_drew ?_ | refine blk_alloc ?_ _)); exact BK104.out⟩, ⟨by repeat (first | (with_reducible first | exact HB.out | apply below_alloc | apply pw_below_drewN | apply below_drew1 | refine below_set ?_ GE104.out) | exact HB.out)⟩⟩
                                            case round =>
                                              clear H'
                                              try clear c1
                                              try clear p1
                                              try clear q1
                                              try clear hx1
                                              try clear qi1
                                              try clear c2
                                              try clear p2
                                              try clear c3
                                              try clear c4
                                              try clear c5
                                              try clear c6
                                              try clear c6b0
                                              try clear c6b1
                                              try clear p6
                                              try clear c7
                                              try clear c8
                                              try clear c8b0
                                              try clear c8b1
                                              try clear c9
                                              try clear c9b0
                                              try clear c9b1
                                              try clear p10
                                              try clear q10
                                              try clear hx10
                                              try clear qi10
                                              try clear c11
                                              try clear c11b0
                                              try clear p11
                                              try clear q11
                                              try clear hx11
                                              try clear qi11
                                              try clear c12
                                              try clear c15
                                              try clear c15b0
                                              try clear c15b1
                                              try clear c16
                                              try clear c17
                                              try clear c17b0
                                              try clear c17b1
                                              try clear c18
                                              try clear c18b0
                                              try clear c18b1
                                              try clear c20
                                              try clear c20b0
                                              try clear c20b1
                                              try clear c21
                                              try clear c21b0
                                              try clear c21b1
                                              try clear c22
                                              try clear c22b0
                                              try clear c22b1
                                              try clear c23
                                              try clear c23b0
                                              try clear c23b1
                                              try clear c24
                                              try clear c25
                                              try clear c25b0
                                              try clear c25b1
                                              try clear c26
                                              try clear c26b0
                                              try clear c26b1
                                              try clear c27
                                              try clear c27b0
                                              try clear c27b1
                                              try clear c28
                                              try clear c28b0
                                              try clear c28b1
                                              try clear c30
                                              try clear c30b0
                                              try clear c31
                                              try clear c32
                                              try clear c32b0
                                              try clear c32b1
                                              try clear c33
                                              try clear c33b0
                                              try clear c33b1
                                              try clear c34
                                              try clear c34b0
                                              try clear c34b1
                                              try clear c38
                                              try clear c38b0
                                              try clear c38b1
                                              try clear c39
                                              try clear c39b0
                                              try clear c39b1
                                              try clear c40
                                              try clear c42
                                              try clear c42b0
                                              try clear c42b1
                                              try clear c43
                                              try clear c43b0
                                              try clear c43b1
                                              try clear c44
                                              try clear c44b0
                                              try clear c44b1
                                              try clear c45
                                              try clear c45b0
                                              try clear c45b1
                                              try clear c46
                                              try clear c46b0
                                              try clear c46b1
                                              try clear c47
                                              try clear c47b0
                                              try clear c47b1
                                              try clear c48
                                              try clear c48b0
                                              try clear c48b1
                                              try clear c49
                                              try clear c49b0
                                              try clear c50
                                              try clear c50b0
                                              try clear c51
                                              try clear c51b0
                                              try clear c51b1
                                              try clear c52
                                              try clear c52b0
                                              try clear c57
                                              try clear c57b0
                                              try clear c57b1
                                              try clear hcz53_0
                                              try clear hcz53_1
                                              try clear hcz53_2
                                              try clear hcz53_3
                                              try clear hcz53_4
                                              try clear hcz53_5
                                              try clear hcz53_6
                                              try clear hcz53_7
                                              try clear hcz54_0
                                              try clear hcz54_1
                                              try clear hcz54_2
                                              try clear hcz54_3
                                              try clear hcz54_4
                                              try clear hcz54_5
                                              try clear hcz54_6
                                              try clear hcz54_7
                                              try clear hcz55_0
                                              try clear hcz55_1
                                              try clear hcz55_2
                                              try clear hcz55_3
                                              try clear hcz55_4
                                              try clear hcz55_5
                                              try clear hcz55_6
                                              try clear hcz55_7
                                              try clear hcz56_0
                                              try clear hcz56_1
                                              try clear hcz56_2
                                              try clear hcz56_3
                                              try clear hcz56_4
                                              try clear hcz56_5
                                              try clear hcz56_6
                                              try clear hcz56_7
                                              try clear hcz5_0
                                              try clear hcz5_1
                                              try clear hcz5_2
                                              try clear hcz5_3
                                              try clear hcz5_4
                                              try clear hcz5_5
                                              try clear hcz5_6
                                              try clear hcz5_7
                                              try clear hfz53_0
                                              try clear hfz53_1
                                              try clear hfz53_2
                                              try clear hfz53_3
                                              try clear hfz53_4
                                              try clear hfz53_5
                                              try clear hfz53_6
                                              try clear hfz53_7
                                              try clear hfz54_0
                                              try clear hfz54_1
                                              try clear hfz54_2
                                              try clear hfz54_3
                                              try clear hfz54_4
                                              try clear hfz54_5
                                              try clear hfz54_6
                                              try clear hfz54_7
                                              try clear hfz55_0
                                              try clear hfz55_1
                                              try clear hfz55_2
                                              try clear hfz55_3
                                              try clear hfz55_4
                                              try clear hfz55_5
                                              try clear hfz55_6
                                              try clear hfz55_7
                                              try clear hfz56_0
                                              try clear hfz56_1
                                              try clear hfz56_2
                                              try clear hfz56_3
                                              try clear hfz56_4
                                              try clear hfz56_5
                                              try clear hfz56_6
                                              try clear hfz56_7
                                              try clear hfz5_0
                                              try clear hfz5_1
                                              try clear hfz5_2
                                              try clear hfz5_3
                                              try clear hfz5_4
                                              try clear hfz5_5
                                              try clear hfz5_6
                                              try clear hfz5_7
                                              try clear hx105_0
                                              try clear hx107_0
                                              try clear hx108_0
                                              try clear hx109_0
                                              try clear hx110_0
                                              try clear hx111_0
                                              try clear hx112_0
                                              try clear hx116_0
                                              try clear hx117_0
                                              try clear hx118_0
                                              try clear hx119_0
                                              try clear p1
                                              try clear p10
                                              try clear p105
                                              try clear p107
                                              try clear p108
                                              try clear p109
                                              try clear p11
                                              try clear p110
                                              try clear p111
                                              try clear p112
                                              try clear p116
                                              try clear p117
                                              try clear p118
                                              try clear p119
                                              try clear p2
                                              try clear q1
                                              try clear q10
                                              try clear q105
                                              try clear q107
                                              try clear q108
                                              try clear q109
                                              try clear q11
                                              try clear q110
                                              try clear q111
                                              try clear q112
                                              try clear q116
                                              try clear q117
                                              try clear q118
                                              try clear q119
                                              obtain ⟨x7_7, x167_7, rfl, rfl, HA, HK7, BK104, HB⟩ := hrel
                                              cases gk with
                                              | zero => exact absurd HA.out (by simp [lower_operated.l0])
                                              | succ k7 =>
                                                have H := HA.out
                                                clear HA
                                                simp only [lower_operated.l0] at H
                                                by_cases c58 : x167_7 < (l1.length : Int)
                                                · rw [if_pos c58] at H
                                                  have c58b0 : decide (x167_7 < (l1.length : Int)) = true := decide_eq_true c58
                                                  clear c58
                                                  by_cases c59 : 0 ≤ x167_7
                                                  · rw [if_pos c59] at H
                                                    have c59b0 : decide (0 ≤ x167_7) = true := decide_eq_true c59
                                                    clear c59
                                                    by_cases c60 : x167_7 < (l1.length : Int)
                                                    · rw [if_pos c60] at H
                                                      have c60b0 : decide (x167_7 < (l1.length : Int)) = true := decide_eq_true c60
                                                      clear c60
                                                      have H' := Aside0.mk H
                                                      clear H
                                                      have p120 : 0 ≤ (x167_7 : Int) := of_decide_eq_true (by first | (with_reducible assumption) | assumption)
                                                      have q120 : x167_7 < (l1.length : Int) := of_decide_eq_true (by first | (with_reducible assumption) | assumption)
                                                      obtain ⟨ad120, e120, hx120_0⟩ := Kd.at_int HR1.out x167_7 p120 q120
                                                      cases e120
                                                      replace hx120_0 := (HB.out.cell (World.block_lt_of_cell? w _ hx120_0)).trans hx120_0
                                                      replace p120 := eq_true p120
                                                      replace q120 := eq_true q120
                                                      go_wp2
                                                      repeat (go_quiet (fail); try go_wp2)
                                                      go_roundg k7
                                                      case measure => have := HJ2.out; have := HJ9.out; have := HJ13.out; have := HJ18.out; have := HJ28.out; have := HJ36.out; have := HK7.out; omega
                                                      case rel => exact ⟨(wrap64 (x7_7 + (rd l1 x167_7))), (wrap64 (x167_7 + 1)), (by first | rfl | (simp; done) | (simp [*]; done)), (by first | rfl | (simp; done) | (simp [*]; done)), H', ⟨by have := HJ2.out; have := HJ9.out; have := HJ13.out; have := HJ18.out; have := HJ28.out; have := HJ36.out; have := HK7.out; omega⟩, ⟨by (with_reducible repeat (first | refine blk_drewN ?_ _ | refine blk_drew ?_ | refine blk_alloc ?_ _)); exact BK104.out⟩, ⟨by repeat (first | (with_reducible first | exact HB.out | apply below_alloc | apply pw_below_drewN | apply below_drew1 | refine below_set ?_ GE104.out) | exact HB.out)⟩⟩
                                                    · rw [if_neg c60] at H
                                                      exact absurd H (by simp)
                                                  · rw [if_neg c59] at H
                                                    exact absurd H (by simp)
                                                · rw [if_neg c58] at H
                                                  have c58b0 : decide (x167_7 < (l1.length : Int)) = false := decide_eq_false c58
                                                  clear c58
                                                  obtain rfl := Option.some.inj H
                                                  go_wp2
                                                  repeat (go_quiet (fail); try go_wp2)
                                                  go_ret
                                                  exact ⟨by first | rfl | (simp [errW_none, errW_some] <;> rfl) | (simp [*, errW_none, errW_some] <;> rfl), by repeat (first | (with_reducible first | exact HB.out | apply below_alloc | apply pw_below_drewN | apply below_drew1 | refine below_set ?_ GE104.out) | exact HB.out)⟩
                                          · rw [if_neg c57] at H
                                            have c57b0 : (a0_1 == 5) = false := beq_eq_false_iff_ne.mpr c57
                                            have c57b1 : (a0_1 != 5) = true := bne_iff_ne.mpr c57
                                            obtain rfl := Option.some.inj H
                                            go_wp2
                                            repeat (go_quiet (fail); try go_wp2)
                                            go_ret
                                            exact ⟨by first | rfl | (simp [errW_none, errW_some] <;> rfl) | (simp [*, errW_none, errW_some] <;> rfl), by repeat (first | (with_reducible first | exact HB.out | apply below_alloc | apply pw_below_drewN | apply below_drew1 | refine below_set ?_ GE104.out) | exact HB.out)⟩
end Go.Proofs.YtonnmkhmhndalaaDoor
end
section
namespace Go.Proofs.YtonnmkhmhndalaaDoor
set_option linter.unusedVariables false
set_option linter.unusedSimpArgs false
open Go.RowKit Go.Proofs.YtonnmkhmhndalaaDoorW.PrintWords Go.Proofs.YtonnmkhmhndalaaDoorW.PrintLast Go.Proofs.YtonnmkhmhndalaaDoorW.PrintMore
def isI (b : Bool) : Int := if b then 1 else 0
def opW (op hi lo : Int) (ws : List Int) : Int :=
  if op = 7 ∨ op = 9 then (if ws.length = 1 then ws.getD 0 0 else 0)
  else if 7 ≤ op ∧ op ≤ 12 then isI (ws.length == 1)
  else if op = 15 ∨ op = 16 then (if ws.length = 2 then ws.getD 0 0 else 0)
  else if op = 13 ∨ op = 14 ∨ op = 23 ∨ op = 25 ∨ op = 24 then (if ws.length = 2 ∧ ws.getD 0 0 = ws.getD 1 0 then ws.getD 0 0 else 0)
  else if 17 ≤ op ∧ op ≤ 22 then isI (ws.length == 2 && ws.getD 0 0 == ws.getD 1 0)
  else if op = 26 ∨ op = 27 ∨ op = 3 then isI (ws.length == 2)
  else if op = 6 then (if ws.length = 3 ∧ ws.getD 1 0 = ws.getD 2 0 then ws.getD 1 0 else 0)
  else if op = 4 then (if ws.length = 1 ∧ 0 ≤ lo ∧ lo ≤ hi ∧ hi < ws.getD 0 0 then hi - lo + 1 else 0)
  else if op = 5 then ws.sum
  else 0
def nodeB (ws : List Int) (x : S39) : Bool :=
  if x.f0 = 1 then decide (ws.length = 0) && (vOk x.f4 && decide ((x.f4.size : Int) = x.f2))
  else if x.f0 = 2 then decide (ws.length = 0)
  else if x.f0 = 3 then decide (opW x.f1 x.f5 x.f6 ws = x.f2)
  else if x.f0 = 4 then decide (ws.length = 3) && (decide (ws.getD 1 0 = x.f2) && decide (ws.getD 2 0 = x.f2))
  else if x.f0 = 5 then decide (ws.length = 2) && (decide (ws.getD 0 0 = ws.getD 1 0) && decide (x.f2 = 1))
  else if x.f0 = 6 then decide (ws.length = 1)
  else if x.f0 = 7 then decide (ws.length = 2) && decide (ws.getD 1 0 = x.f2)
  else if x.f0 = 8 then decide (ws.length = 1) && (decide (ws.getD 0 0 = x.f2) && (decide (1 ≤ x.f7) && decide (x.f7 ≤ 1048576)))
  else false
def zeroB (x : S39) : Bool := (decide (x.f0 = 3) || decide (x.f1 = 0)) && ((decide (x.f0 = 1) || decide (x.f4.toList = [])) && ((decide (x.f0 = 3 ∧ x.f1 = 4) || (decide (x.f5 = 0) && decide (x.f6 = 0))) && (decide (x.f0 = 8) || decide (x.f7 = 0))))
def inB (n : Nat) (k : Int) : Bool := decide (0 ≤ k) && decide (k < n)
def wAt (l : List S39) (k : Int) : Int := (l.getD k.toNat z39).f2
def wsOf (l : List S39) (y : S39) : List Int := y.f3.map (wAt l)
def wideB (n : Nat) (y : S39) : Bool := (decide (1 ≤ y.f2) && decide (y.f2 ≤ 256)) && y.f3.all (inB n)
def portB (nt : List Int) (k : Nat) (y : S39) : Bool := !decide (y.f0 = 2) || decide (nt.count (k : Int) = 1)
def okB (x : NL) (k : Nat) : Bool := nodeB (wsOf x.nd (nAt x k)) (nAt x k) && (zeroB (nAt x k) && portB x.nt k (nAt x k))
def mayL (x : NL) : Bool := (decide (x.nd.length ≤ 4096) && decide (x.pt = x.nt.length)) && (x.nd.all (wideB x.nd.length) && (x.nt.all (inB x.nd.length) && (List.range x.nd.length).all (okB x)))
theorem sum_append1 (l : List Int) (a : Int) : (l ++ [a]).sum = l.sum + a := by simp
theorem sum_bd (l : List Int) (h : ∀ a ∈ l, 1 ≤ a ∧ a ≤ 256) : (l.length : Int) ≤ l.sum ∧ l.sum ≤ 256 * l.length := by
  induction l with
  | nil => simp
  | cons a l ih =>
    have h1 := h a List.mem_cons_self
    have h2 := ih fun b hb => h b (List.mem_cons_of_mem _ hb)
    rw [List.sum_cons, List.length_cons]
    omega
theorem op_l0 (ws : List Int) (hw : ∀ a ∈ ws, 1 ≤ a ∧ a ≤ 256) (hl : ws.length * 8 ≤ 140737488355328) : ∀ (d k i : Nat), i + d = ws.length → d < k → lower_operated.l0 k (ws.take i).sum ws (ws.length : Int) (i : Int) = some ws.sum := by
  intro d
  induction d with
  | zero =>
    intro k i hi hk
    obtain ⟨k, rfl⟩ : ∃ m, k = m + 1 := ⟨k - 1, by omega⟩
    obtain rfl : i = ws.length := by omega
    simp only [lower_operated.l0]
    rw [if_neg (by omega), List.take_length]
  | succ d ih =>
    intro k i hi hk
    obtain ⟨k, rfl⟩ : ∃ m, k = m + 1 := ⟨k - 1, by omega⟩
    have hlt : i < ws.length := by omega
    simp only [lower_operated.l0]
    rw [if_pos (by omega), if_pos (by omega), if_pos (by omega)]
    have hr : rd ws (i : Int) = ws[i] := by
      unfold rd
      rw [Int.toNat_natCast, List.getD_eq_getElem?_getD, List.getElem?_eq_getElem hlt]
      rfl
    have hs : (ws.take (i + 1)).sum = (ws.take i).sum + ws[i] := by
      rw [List.take_succ_eq_append_getElem hlt, sum_append1]
    have hb := sum_bd (ws.take (i + 1)) (fun a ha => hw a (List.mem_of_mem_take ha))
    have hb0 := sum_bd (ws.take i) (fun a ha => hw a (List.mem_of_mem_take ha))
    have hl1 : (ws.take (i + 1)).length ≤ ws.length := by rw [List.length_take]; omega
    rw [hr, ← hs, w64 (by omega) (by omega), w64 (by omega) (by omega)]
    exact ih k (i + 1) (by omega) (by omega)
theorem op_f (x : S39) (ws : List Int) (hw : ∀ a ∈ ws, 1 ≤ a ∧ a ≤ 256) (hl : ws.length * 8 ≤ 140737488355328) :
    lower_operated.f (ws.length + 10) x.f0 x.f1 x.f2 x.f3 x.f4 x.f5 x.f6 x.f7 ws = some (opW x.f1 x.f5 x.f6 ws) := by
  have hl0 := op_l0 ws hw hl ws.length (ws.length + 4) 0 (by omega) (by omega)
  rw [List.take_zero, List.sum_nil] at hl0
  have hl1 : lower_operated.l0 (ws.length + 4) 0 ws (ws.length : Int) 0 = some ws.sum := hl0
  have r0 : rd ws 0 = ws.getD 0 0 := rfl
  have r1 : rd ws 1 = ws.getD 1 0 := rfl
  have r2 : rd ws 2 = ws.getD 2 0 := rfl
  have b0 : ws.length = 1 → ws.getD 0 0 ≤ 256 := by
    intro h
    match ws, h with
    | [a], _ => exact (hw a (by simp)).2
  unfold lower_operated.f
  simp only [lower_operated.j0, lower_operated.j1, lower_operated.j2, lower_operated.j3, lower_operated.j4, lower_operated.j5, lower_is.f, r0, r1, r2]
  unfold opW isI
  generalize x.f1 = op
  generalize x.f5 = hi
  generalize x.f6 = lo
  generalize hA : ws.getD 0 0 = a0 at *
  generalize hB : ws.getD 1 0 = a1 at *
  generalize hC : ws.getD 2 0 = a2 at *
  generalize ws.sum = S at *
  generalize hN : ws.length = N at *
  have hn : ((N : Int) = 1 ↔ N = 1) ∧ ((N : Int) = 2 ↔ N = 2) ∧ ((N : Int) = 3 ↔ N = 3) ∧ (0 < (N : Int) ↔ 0 < N) ∧ (1 < (N : Int) ↔ 1 < N) ∧ (2 < (N : Int) ↔ 2 < N) := by omega
  have hop : op < 3 ∨ op = 3 ∨ op = 4 ∨ op = 5 ∨ op = 6 ∨ op = 7 ∨ op = 8 ∨ op = 9 ∨ op = 10 ∨ op = 11 ∨ op = 12 ∨ op = 13 ∨ op = 14 ∨ op = 15 ∨ op = 16 ∨ op = 17 ∨ op = 18 ∨ op = 19 ∨ op = 20 ∨ op = 21 ∨ op = 22 ∨ op = 23 ∨ op = 24 ∨ op = 25 ∨ op = 26 ∨ op = 27 ∨ 27 < op := by omega
  clear hl0 r0 r1 r2 hw hl hA hB hC hN
  have hN4 : N = 0 ∨ N = 1 ∨ N = 2 ∨ N = 3 ∨ 3 < N := by omega
  rcases hop with h | rfl | rfl | rfl | rfl | rfl | rfl | rfl | rfl | rfl | rfl | rfl | rfl | rfl | rfl | rfl | rfl | rfl | rfl | rfl | rfl | rfl | rfl | rfl | rfl | rfl | h
  case inl =>
    rw [if_neg (by omega)]
    simp [show ¬ op = 7 by omega, show ¬ op = 9 by omega, show ¬ 7 ≤ op by omega, show ¬ op = 15 by omega, show ¬ op = 16 by omega, show ¬ op = 13 by omega, show ¬ op = 14 by omega, show ¬ op = 23 by omega, show ¬ op = 24 by omega, show ¬ op = 25 by omega, show ¬ 17 ≤ op by omega, show ¬ op = 26 by omega, show ¬ op = 27 by omega, show ¬ op = 3 by omega, show ¬ op = 4 by omega, show ¬ op = 5 by omega, show ¬ op = 6 by omega]
  case inr.inr.inr.inr.inr.inr.inr.inr.inr.inr.inr.inr.inr.inr.inr.inr.inr.inr.inr.inr.inr.inr.inr.inr.inr.inr =>
    rw [if_neg (by omega)]
    simp [show ¬ op = 7 by omega, show ¬ op = 9 by omega, show ¬ op ≤ 12 by omega, show ¬ op = 15 by omega, show ¬ op = 16 by omega, show ¬ op = 13 by omega, show ¬ op = 14 by omega, show ¬ op = 23 by omega, show ¬ op = 24 by omega, show ¬ op = 25 by omega, show ¬ op ≤ 22 by omega, show ¬ op = 26 by omega, show ¬ op = 27 by omega, show ¬ op = 3 by omega, show ¬ op = 4 by omega, show ¬ op = 5 by omega, show ¬ op = 6 by omega]
  case inr.inr.inl =>
    rcases hN4 with rfl | rfl | rfl | rfl | h4
    · simp
    · have := b0 rfl
      simp
      by_cases h1 : 0 ≤ lo
      · by_cases h2 : lo ≤ hi
        · by_cases h3 : hi < a0
          · rw [if_pos h1, if_pos h2, if_pos h3, if_pos ⟨h1, h2, h3⟩, w64 (n := hi - lo) (by omega) (by omega), w64 (by omega) (by omega)]
          · rw [if_pos h1, if_pos h2, if_neg h3, if_neg (fun h => h3 h.2.2)]
        · rw [if_pos h1, if_neg h2, if_neg (fun h => h2 h.2.1)]
      · rw [if_neg h1, if_neg (fun h => h1 h.1)]
    · simp
    · simp
    · simp [show ¬ N = 1 by omega, show ¬ (N : Int) = 1 by omega]
  case inr.inr.inr.inl =>
    clear b0
    simp
    exact hl1
  all_goals
    clear b0 hl1
    rcases hN4 with rfl | rfl | rfl | rfl | h4
    · simp
    · simp
    · simp
      try (split <;> simp_all)
    · simp
      try (split <;> simp_all)
    · simp [show ¬ N = 1 by omega, show ¬ (N : Int) = 1 by omega, show ¬ N = 2 by omega, show ¬ (N : Int) = 2 by omega, show ¬ N = 3 by omega, show ¬ (N : Int) = 3 by omega]
end Go.Proofs.YtonnmkhmhndalaaDoor
end
