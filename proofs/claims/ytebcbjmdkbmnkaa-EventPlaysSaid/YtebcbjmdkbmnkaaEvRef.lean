/- The document's queue: ahead and find, walked. -/
import Derived.Test.YtebcbjmdkbmnkaaEvMine
namespace Go.Proofs.Ytebcbjmdkbmnkaa
set_option linter.unusedVariables false
set_option linter.unusedSimpArgs false
open Go.RowKit

theorem lessE_cases (x y : Ev) : lessE x y = if x.t = y.t then (if x.n = y.n then (if x.f = y.f then decide (x.s < y.s) else decide (x.f < y.f)) else decide (x.n < y.n)) else decide (x.t < y.t) := by
  rw [Bool.eq_iff_iff, lessE_iff]
  unfold LtE
  repeat' split
  all_goals (simp only [decide_eq_true_iff]; omega)

set_option maxHeartbeats 1000000 in
theorem ahead_any (x y : Ev) (w : World) :
    Calls Try.prog 34 #[.agg x.cs, .agg y.cs] w fun e w' => e = .returned (.bool (lessE x y)) ∧ Below w.heap.size w w' := by
  rw [lessE_cases]
  obtain ⟨xt, xn, xv, xf, xs, xa⟩ := x
  obtain ⟨yt, yn, yv, yf, ys, ya⟩ := y
  unfold Ev.cs
  dsimp only
  by_cases h1 : xt = yt
  · by_cases h2 : xn = yn
    · by_cases h3 : xf = yf
      · rw [if_pos h1, if_pos h2, if_pos h3]
        go_enter Try.func34, Try.ntmps34
        go_wp2
        go_ret
        exact ⟨by simp, by go_grown⟩
      · rw [if_pos h1, if_pos h2, if_neg h3]
        go_enter Try.func34, Try.ntmps34
        go_wp2
        go_ret
        exact ⟨by simp, by go_grown⟩
    · rw [if_pos h1, if_neg h2]
      go_enter Try.func34, Try.ntmps34
      go_wp2
      go_ret
      exact ⟨by simp, by go_grown⟩
  · rw [if_neg h1]
    go_enter Try.func34, Try.ntmps34
    go_wp2
    go_ret
    exact ⟨by simp, by go_grown⟩

set_option maxHeartbeats 1000000 in
theorem find_any (lim f s : Int) (A : Option Addr) (n c : Nat) (L : List Ev) (w : World) (hL : L.length = n) (hn : n ≤ 4097) (hR : Rd w A L) :
    Calls Try.prog 33 #[.agg #[.int .i64 lim, .slice A n c], .int .i64 f, .int .i64 s] w fun e w' => e = .returned (.int .i64 (idxP (sameNo f s) L)) ∧ Below w.heap.size w w' := by
  have HR := Lib.hid hR
  have HL := Lib.hid hL
  clear hR hL
  go_enter Try.func33, Try.ntmps33
  go_wp2
  have hcb : (w.alloc (.cells #[.int .i64 lim, .slice A n c] 42)).cell? ⟨w.heap.size, 1, none⟩ = some (.slice A n c) := by simp [go_sem]
  have hbb : Below w.heap.size w (w.alloc (.cells #[.int .i64 lim, .slice A n c] 42)) := by go_grown
  have hbs : w.heap.size < (w.alloc (.cells #[.int .i64 lim, .slice A n c] 42)).heap.size := by simp
  generalize (w.alloc (.cells #[.int .i64 lim, .slice A n c] 42)) = w1 at *
  generalize hB0 : w.heap.size = B at *
  go_loopw [7] (fun iv wr => ∃ k : Nat, iv = .int .i64 k ∧ k ≤ n ∧ Hid (∀ i, i < k → sameNo f s (evAt L i) = false) ∧ wr = w1) (fun iv _ => n - (intOf iv).toNat)
  case atStart => exact ⟨0, rfl, Nat.zero_le _, fun i hi => by omega, rfl⟩
  case round =>
    obtain ⟨k, rfl, hk, hall, rfl⟩ := hrel
    by_cases hlt : k < n
    · obtain ⟨b, rfl, hbl, hx⟩ := (HR.out.below (by rw [hB0]; exact hbb)) (by rw [HL.out]; omega)
      obtain ⟨x0, x1, x2, x3, x4, x5⟩ := hx k _ (evAt_some (by rw [HL.out]; exact hlt))
      clear hx
      cases hp : sameNo f s (evAt L k) with
      | true =>
        have Hp := Lib.hid hp
        have hp1 := hp
        simp only [sameNo, Bool.and_eq_true, beq_iff_eq] at hp1
        obtain ⟨e1, e2⟩ := hp1
        rw [e1] at x3
        rw [e2] at x4
        clear hp
        go_wp2
        go_ret
        refine ⟨?_, hB0 ▸ hbb⟩
        rw [idxP_at (by rw [HL.out]; exact hlt) hall.out Hp.out]
        rfl
      | false =>
        have hall2 : Hid (∀ i, i < k + 1 → sameNo f s (evAt L i) = false) := fun i hi => by
          rcases Nat.lt_or_ge i k with h | h
          · exact hall.out i h
          · rw [show i = k from by omega]; exact hp
        simp only [sameNo, Bool.and_eq_false_iff, beq_eq_false_iff_ne] at hp
        by_cases e1 : (evAt L k).f = f
        · have e2 : ¬ (evAt L k).s = s := by
            rcases hp with h | h
            · exact absurd e1 h
            · exact h
          rw [e1] at x3
          clear hp
          go_wp2
          go_roundw
          case rel => exact ⟨k + 1, by go_num, by omega, hall2, trivial⟩
          case measure => simp [intOf]; omega
        · clear hp
          go_wp2
          go_roundw
          case rel => exact ⟨k + 1, by go_num, by omega, hall2, trivial⟩
          case measure => simp [intOf]; omega
    · go_wp2
      go_ret
      refine ⟨?_, hB0 ▸ hbb⟩
      rw [idxP_none (fun i hi => hall.out i (by rw [HL.out] at hi; omega))]
      rfl
end Go.Proofs.Ytebcbjmdkbmnkaa
