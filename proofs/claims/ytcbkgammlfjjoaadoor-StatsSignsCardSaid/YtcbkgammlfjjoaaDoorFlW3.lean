/- Or, Order, IsInf, Mills, walked. -/
import Derived.Test.YtcbkgammlfjjoaaDoorFlW2
namespace Go.Proofs.YtcbkgammlfjjoaaDoor
set_option linter.unusedVariables false
set_option linter.unusedSimpArgs false
open Go.RowKit Go.Proofs.YtcbkgammlfjjoaaDoorW.PrintWords Go.Proofs.YtcbkgammlfjjoaaDoorW.PrintLast Go.Proofs.YtcbkgammlfjjoaaDoorW.PrintMore

def orI (x y : Int) : Int := if x = 0 then y else x
theorem or_any (x y : Int) (b : Nat) (w : World) (h0 : w.cell? ⟨b, 0, none⟩ = some (.int .i64 x)) (h1 : w.cell? ⟨b, 1, none⟩ = some (.int .i64 y)) :
    Calls Tryd.prog 59 #[.slice (some ⟨b, 0, none⟩) 2 2] w fun e w' => e = .returned (.int .i64 (orI x y)) ∧ w = w' := by
  obtain ⟨ans, hans⟩ : ∃ ans, orI x y = ans := ⟨_, rfl⟩
  rw [hans]
  have HA := Lib.hid hans
  clear hans
  go_enter Tryd.func59, Tryd.ntmps59
  go_wp2
  go_loop [8] (fun v8 => ∃ k : Nat, k ≤ 2 ∧ v8 = .int .i64 k ∧ Hid (1 ≤ k → x = 0) ∧ Hid (2 ≤ k → y = 0)) (fun v8 => 2 - (intOf v8).toNat)
  case atStart => exact ⟨0, by omega, rfl, Lib.hid (fun h => absurd h (by omega)), Lib.hid (fun h => absurd h (by omega))⟩
  case round =>
    obtain ⟨k, hk, rfl, HX, HY⟩ := hrel
    rcases (by omega : k = 0 ∨ k = 1 ∨ k = 2) with rfl | rfl | rfl
    · clear HX HY hk
      by_cases hz : x = 0
      · have hz' : (x != 0) = false := by simpa using hz
        have HZ := Lib.hid hz
        clear hz
        go_wp2
        go_round
        case rel => exact ⟨1, by omega, rfl, Lib.hid (fun _ => HZ.out), Lib.hid (fun h => absurd h (by omega))⟩
        case measure => simp [intOf]
      · have hz' : (x != 0) = true := by simpa using hz
        obtain rfl : ans = x := by rw [← HA.out, orI, if_neg hz]
        clear hz
        go_wp2
        go_ret
        exact ⟨rfl, rfl⟩
    · have hx := HX.out (by omega)
      clear HX HY hk
      by_cases hz : y = 0
      · have hz' : (y != 0) = false := by simpa using hz
        have HZ := Lib.hid hz
        have HX := Lib.hid hx
        clear hz hx
        go_wp2
        go_round
        case rel => exact ⟨2, by omega, rfl, Lib.hid (fun _ => HX.out), Lib.hid (fun _ => HZ.out)⟩
        case measure => simp [intOf]
      · have hz' : (y != 0) = true := by simpa using hz
        obtain rfl : ans = y := by rw [← HA.out, orI, if_pos hx]
        clear hz hx
        go_wp2
        go_ret
        exact ⟨rfl, rfl⟩
    · have hx := HX.out (by omega)
      have hy := HY.out (by omega)
      obtain rfl : ans = 0 := by rw [← HA.out, orI, if_pos hx, hy]
      clear HX HY hk hx hy HA
      go_wp2
      go_ret
      exact ⟨rfl, rfl⟩
theorem ordF_eq (a b : Nat) : ordF a b = if cmpI (placeF a) (placeF b) ≠ 0 ∨ nanB a = true then cmpI (placeF a) (placeF b) else orI (cmpF a b) (cmpI (signF a) (signF b)) := by
  unfold ordF placeF cmpF orI
  cases nanB a <;> cases nanB b <;> simp [cmpI]
  repeat' split
  all_goals first | rfl | omega
theorem order_any (a b : Nat) (w : World) (ha : a < 18446744073709551616) (hb : b < 18446744073709551616) : Calls Tryd.prog 32 #[.float .f64 a, .float .f64 b] w fun e w' => e = .returned (.int .i64 (ordF a b)) ∧ Below w.heap.size w w' := by
  rw [ordF_eq]
  have P0 := Lib.hid (place_any a)
  have P1 := Lib.hid (place_any b)
  have NA := Lib.hid (isNaN_any a)
  have CF := Lib.hid (cmpFloat_any a b)
  have SA := Lib.hid (fun w => sign_any a w ha)
  have SB := Lib.hid (fun w => sign_any b w hb)
  clear ha hb
  generalize placeF a = p0 at P0 ⊢
  generalize placeF b = p1 at P1 ⊢
  generalize nanB a = na at NA ⊢
  generalize cmpF a b = cf at CF ⊢
  generalize signF a = sa at SA ⊢
  generalize signF b = sb at SB ⊢
  have C0 := Lib.hid (cmpInt_any p0 p1)
  have C1 := Lib.hid (cmpInt_any sa sb)
  generalize cmpI p0 p1 = c at C0 ⊢
  generalize cmpI sa sb = d at C1 ⊢
  by_cases hc : c = 0
  · subst hc
    cases na
    · rw [if_neg (by simp)]
      go_enter Tryd.func32, Tryd.ntmps32
      go_wp2_with (first
        | (go_at_call 57; (with_reducible first | refine (P0.out _).mono ?_ | refine (P1.out _).mono ?_); rintro e w' ⟨rfl, rfl⟩)
        | (go_at_call 56; (with_reducible first | refine (C0.out _).mono ?_ | refine (C1.out _).mono ?_); rintro e w' ⟨rfl, rfl⟩)
        | (go_at_call 58; (with_reducible refine (NA.out _).mono ?_); rintro e w' ⟨rfl, rfl⟩)
        | (go_at_call 60; (with_reducible refine (CF.out _).mono ?_); rintro e w' ⟨rfl, rfl⟩)
        | (go_at_call 61; (with_reducible first | refine (SA.out _).mono ?_ | refine (SB.out _).mono ?_); rintro e w' ⟨rfl, rfl⟩)
        | (go_at_call 59; (with_reducible refine (or_any cf d _ _ ?c1 ?c2).mono ?_); rotate_left 2; rintro e w' ⟨rfl, rfl⟩))
      case c1 => simp [go_sem]
      case c2 => simp [go_sem]
      go_ret
      exact ⟨rfl, (Below.refl _ _).alloc (Nat.le_refl _) _⟩
    · rw [if_pos (by simp)]
      go_enter Tryd.func32, Tryd.ntmps32
      go_wp2_with (first
        | (go_at_call 57; (with_reducible first | refine (P0.out _).mono ?_ | refine (P1.out _).mono ?_); rintro e w' ⟨rfl, rfl⟩)
        | (go_at_call 56; (with_reducible first | refine (C0.out _).mono ?_ | refine (C1.out _).mono ?_); rintro e w' ⟨rfl, rfl⟩)
        | (go_at_call 58; (with_reducible refine (NA.out _).mono ?_); rintro e w' ⟨rfl, rfl⟩))
      go_ret
      exact ⟨rfl, Below.refl _ _⟩
  · rw [if_pos (Or.inl hc)]
    have hc' : (c != 0) = true := by simpa using hc
    go_enter Tryd.func32, Tryd.ntmps32
    go_wp2_with (first
      | (go_at_call 57; (with_reducible first | refine (P0.out _).mono ?_ | refine (P1.out _).mono ?_); rintro e w' ⟨rfl, rfl⟩)
      | (go_at_call 56; (with_reducible first | refine (C0.out _).mono ?_ | refine (C1.out _).mono ?_); rintro e w' ⟨rfl, rfl⟩)
      | (go_at_call 58; (with_reducible refine (NA.out _).mono ?_); rintro e w' ⟨rfl, rfl⟩))
    go_ret
    exact ⟨rfl, Below.refl _ _⟩
end Go.Proofs.YtcbkgammlfjjoaaDoor
