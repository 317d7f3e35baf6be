/- until, walked. -/
import Derived.Test.YtcbkgammlfjjoaaDoorWb
namespace Go.Proofs.YtcbkgammlfjjoaaDoor
set_option linter.unusedVariables false
set_option linter.unusedSimpArgs false
open Go.RowKit Go.Proofs.YtcbkgammlfjjoaaDoorW.PrintWords Go.Proofs.YtcbkgammlfjjoaaDoorW.PrintLast Go.Proofs.YtcbkgammlfjjoaaDoorW.PrintMore

theorem cmpInt_u (a b : Int) (w : World) : Calls Tryd.prog 56 #[.int .i64 a, .int .i64 b] w fun e w' => e = .returned (.int .i64 (cmpI a b)) ∧ w = w' := by
  unfold cmpI
  by_cases h1 : a < b
  · rw [if_pos h1]
    go_enter Tryd.func56, Tryd.ntmps56
    go_wp2
    go_ret
    exact ⟨rfl, rfl⟩
  · rw [if_neg h1]
    by_cases h2 : b < a
    · rw [if_pos h2]
      go_enter Tryd.func56, Tryd.ntmps56
      go_wp2
      go_ret
      exact ⟨rfl, rfl⟩
    · rw [if_neg h2]
      go_enter Tryd.func56, Tryd.ntmps56
      go_wp2
      go_ret
      exact ⟨rfl, rfl⟩
theorem untilC_any (c : S59) (t : Int) (w : World) : Calls Tryd.prog 71 #[.agg #[.int .i64 c.f0, .int .i64 c.f1, .string c.f2], .int .i64 t] w fun e w' => e = .returned (.int .i64 (cmpI c.f0 t)) ∧ Below w.heap.size w w' := by
  have HC := Lib.hid (cmpInt_u c.f0 t)
  generalize cmpI c.f0 t = r at HC ⊢
  go_enter Tryd.func71, Tryd.ntmps71
  go_wp2_with (first | (go_at_call 56; (with_reducible refine (HC.out _).mono ?_); rintro e w' ⟨rfl, rfl⟩))
  go_ret
  exact ⟨rfl, below_alloc (Below.refl _ _) _⟩
/-- changes by their times -/
def Sorted0 (l : List S59) : Prop := ∀ a b, a < b → b < l.length → (l.getD a z59).f0 ≤ (l.getD b z59).f0
def untilN (l : List S59) (t : Int) : Nat := (l.takeWhile (fun c => decide (c.f0 < t))).length
theorem untilN_of (t : Int) : ∀ (l : List S59) (m : Nat), m ≤ l.length → (∀ k, k < m → (l.getD k z59).f0 < t) → (∀ k, m ≤ k → k < l.length → t ≤ (l.getD k z59).f0) → untilN l t = m := by
  intro l
  induction l with
  | nil => intro m hm _ _; simp at hm; subst hm; rfl
  | cons c l ih =>
    intro m hm h1 h2
    unfold untilN at ih ⊢
    cases m with
    | zero =>
      have := h2 0 (Nat.le_refl _) (by simp)
      rw [List.takeWhile_cons_of_neg (by simpa using this)]
      rfl
    | succ m =>
      have := h1 0 (by omega)
      rw [List.takeWhile_cons_of_pos (by simpa using this), List.length_cons, ih m (by simpa using hm) (fun k hk => by simpa using h1 (k + 1) (by omega)) (fun k hk hk2 => by simpa using h2 (k + 1) (by omega) (by simpa using hk2))]
def BsP (l : List S59) (t : Int) (w : World) (e : Ending) (w' : World) : Prop := ∃ b : Bool, e = .returned (.tuple #[.int .i64 (untilN l t), .bool b]) ∧ Below w.heap.size w w'
set_option maxRecDepth 100000 in
set_option maxHeartbeats 4000000 in
theorem bs_any (l : List S59) (A : Option Addr) (c : Nat) (t : Int) (w : World) (hA : AF A) (hl : Kd.C k59 w A l.length l) (hb : l.length * 32 ≤ 140737488355328) (hs : Sorted0 l) :
    Calls Tryd.prog 70 #[.slice A l.length c, .int .i64 t, .func (.func 71) #[] #[]] w (BsP l t w) := by
  have HL := Lib.hid hl
  have HA := Lib.hid hA
  have HS := Lib.hid hs
  clear hl hA hs
  go_enter Tryd.func70, Tryd.ntmps70
  go_wp2_with fail
  go_loopw [9, 10] (fun v9 v10 wx => ∃ i j : Nat, v9 = .int .i64 i ∧ v10 = .int .i64 j ∧ i ≤ j ∧ j ≤ l.length ∧ Hid (∀ k, k < i → (l.getD k z59).f0 < t) ∧ Hid (∀ k, j ≤ k → k < l.length → t ≤ (l.getD k z59).f0) ∧ Hid (Below w.heap.size w wx)) (fun v9 v10 _ => (intOf v10).toNat - (intOf v9).toNat)
  case atStart => exact ⟨0, l.length, rfl, rfl, Nat.zero_le _, Nat.le_refl _, Lib.hid (fun k hk => absurd hk (Nat.not_lt_zero k)), Lib.hid (fun k h1 h2 => absurd h1 (by omega)), Lib.hid (Below.refl _ _)⟩
  case round =>
    obtain ⟨i, j, rfl, rfl, hij, hj, H1, H2, HB⟩ := hrel
    by_cases hlt : i < j
    · obtain ⟨h, hh, h1, h2⟩ : ∃ h : Nat, (i + j) / 2 = h ∧ i ≤ h ∧ h < j := ⟨_, rfl, by omega, by omega⟩
      obtain ⟨b, o, rfl, hc0, hc1, hc2, _⟩ := chg_cell (Kd.C_below HL.out HB.out) HA.out h (by omega)
      obtain ⟨ce, hce⟩ : ∃ ce, l.getD h z59 = ce := ⟨_, rfl⟩
      rw [hce] at hc0 hc1 hc2
      have HCe := Lib.hid hce
      clear hce
      obtain ⟨tm, nt, vl⟩ := ce
      simp only at hc0 hc1 hc2
      have hcl := fun W => untilC_any ⟨tm, nt, vl⟩ t W
      have hr : cmpI tm t < 0 ↔ tm < t := by unfold cmpI; split <;> (try split) <;> omega
      simp only at hcl
      generalize cmpI tm t = r at hcl hr
      have HCl := Lib.hid hcl
      clear hcl
      by_cases ht : tm < t
      · have hr1 : decide (r < 0) = true := decide_eq_true (hr.2 ht)
        have HT := Lib.hid ht
        clear hr ht
        go_wp2_with (first | (go_at_call 71; (with_reducible refine (HCl.out _).mono ?_); rintro e w' ⟨rfl, hb5⟩; have HB5 := Lib.hid hb5; clear hb5))
        refine ⟨⟨h + 1, j, by rw [← hh]; simp, rfl, by omega, hj, Lib.hid (fun k hk => ?_), H2, Lib.hid (HB.out.trans (HB5.out.mono HB.out.size))⟩, by simp [intOf]; omega⟩
        rcases Nat.lt_or_ge k h with h3 | h3
        · have := HS.out k h h3 (by omega)
          rw [HCe.out] at this
          have := HT.out
          simp only at *
          omega
        · rw [show k = h from by omega, HCe.out]
          exact HT.out
      · have hr1 : decide (r < 0) = false := decide_eq_false (fun h => ht (hr.1 h))
        have HT := Lib.hid ht
        clear hr ht
        go_wp2_with (first | (go_at_call 71; (with_reducible refine (HCl.out _).mono ?_); rintro e w' ⟨rfl, hb5⟩; have HB5 := Lib.hid hb5; clear hb5))
        refine ⟨⟨i, h, rfl, by rw [← hh]; simp, h1, by omega, H1, Lib.hid (fun k hk hk2 => ?_), Lib.hid (HB.out.trans (HB5.out.mono HB.out.size))⟩, by simp [intOf]; omega⟩
        rcases Nat.lt_or_ge h k with h3 | h3
        · have := HS.out h k h3 hk2
          rw [HCe.out] at this
          have := HT.out
          simp only at *
          omega
        · rw [show k = h from by omega, HCe.out]
          have := HT.out
          simp only
          omega
    · obtain rfl : i = j := by omega
      have hu := untilN_of t l i hj H1.out H2.out
      have HU := Lib.hid hu
      clear hu hij
      by_cases hn : i < l.length
      · obtain ⟨b, o, rfl, hc0, hc1, hc2, _⟩ := chg_cell (Kd.C_below HL.out HB.out) HA.out i hn
        obtain ⟨ce, hce⟩ : ∃ ce, l.getD i z59 = ce := ⟨_, rfl⟩
        rw [hce] at hc0 hc1 hc2
        clear hce
        obtain ⟨tm, nt, vl⟩ := ce
        simp only at hc0 hc1 hc2
        have hcl := fun W => untilC_any ⟨tm, nt, vl⟩ t W
        simp only at hcl
        generalize cmpI tm t = r at hcl
        have HCl := Lib.hid hcl
        clear hcl
        go_wp2_with (first | (go_at_call 71; (with_reducible refine (HCl.out _).mono ?_); rintro e w' ⟨rfl, hb5⟩; have HB5 := Lib.hid hb5; clear hb5))
        go_ret2
        exact ⟨_, by rw [HU.out]; rfl, HB.out.trans (HB5.out.mono HB.out.size)⟩
      · go_wp2_with fail
        go_ret2
        exact ⟨_, by rw [HU.out]; rfl, HB.out⟩
set_option maxRecDepth 100000 in
theorem until_any (x : WV) (A0 : Option Addr) (c0 : Nat) (A1 : Option Addr) (c1 : Nat) (A2 : Option Addr) (c2 : Nat) (A3 : Option Addr) (c3 : Nat) (t : Int) (w : World) (hI : WIn w x A0 c0 A1 c1 A2 c2 A3 c3) (hs : Sorted0 x.li) :
    Calls Tryd.prog 49 #[wvV x A0 c0 A1 c1 A2 c2 A3 c3, .int .i64 t] w fun e w' => e = .returned (.int .i64 (untilN x.li t)) ∧ Below w.heap.size w w' := by
  have HI := Lib.hid hI
  have HS := Lib.hid hs
  clear hI hs
  go_enter Tryd.func49, Tryd.ntmps49
  go_wp2_with fail
  have hb : Below w.heap.size w (w.alloc (Obj.cells #[Value.slice A0 x.nm.length c0, Value.slice A1 x.wd.length c1, Value.slice A2 x.fi.length c2, Value.slice A3 x.li.length c3] 26)) := below_alloc (Below.refl _ _) _
  have h := bs_any x.li A3 c3 t _ HI.out.a3 (Kd.C_below HI.out.h3 hb) HI.out.b3 HS.out
  refine h.mono ?_
  clear h
  rintro e w1 ⟨fb, rfl, hb1⟩
  have HB := Lib.hid (hb.trans (hb1.mono hb.size))
  clear hb hb1
  go_wp2_with fail
  go_ret
  exact ⟨rfl, HB.out⟩
end Go.Proofs.YtcbkgammlfjjoaaDoor
