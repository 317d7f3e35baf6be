/- The contract of the heap's down: it leaves what the plain function downL leaves. -/
import Derived.Test.YtebcbjmdkbmnkaaEvUp
namespace Go.Proofs.Ytebcbjmdkbmnkaa
set_option linter.unusedVariables false
set_option linter.unusedSimpArgs false
open Go.RowKit

def childL (L : List Ev) (i n : Nat) : Nat := if 2 * i + 2 < n ∧ lessE (evAt L (2 * i + 2)) (evAt L (2 * i + 1)) = true then 2 * i + 2 else 2 * i + 1
theorem childL_ge (L : List Ev) (i n : Nat) : i < childL L i n := by unfold childL; split <;> omega
theorem childL_lt (L : List Ev) (i n : Nat) (h : 2 * i + 1 < n) : childL L i n < n := by unfold childL; split <;> omega
def downL (L : List Ev) (i n : Nat) : List Ev × Nat :=
  if 2 * i + 1 < n then
    if lessE (evAt L (childL L i n)) (evAt L i) = true then downL (swapL L i (childL L i n)) (childL L i n) n else (L, i)
  else (L, i)
termination_by n - i
decreasing_by have := childL_ge L i n; omega

set_option maxHeartbeats 4000000 in
theorem down_any (g b c i0 n : Nat) (lim : Int) (L : List Ev) (w : World) (hi : i0 < L.length) (hnl : n ≤ L.length) (hn : L.length ≤ 4096) (hQ : HQ w g b c lim L) :
    Calls Try.prog 32 #[.iface 58 (.pointer (some ⟨g, 0, none⟩)), .int .i64 i0, .int .i64 n] w fun e w' => e = .returned (.bool (decide (i0 < (downL L i0 n).2))) ∧ Kp (· = b) w w' ∧ HQ w' g b c lim (downL L i0 n).1 := by
  go_enter Try.func32, Try.ntmps32
  go_wp2
  go_loopw [7] (fun iv wr => ∃ (k : Nat) (M : List Ev), iv = .int .i64 k ∧ k < L.length ∧ i0 ≤ k ∧ M.length = L.length ∧ downL M k n = downL L i0 n ∧ HQ wr g b c lim M ∧ Kp (· = b) w wr) (fun iv _ => n - (intOf iv).toNat)
  case atStart => exact ⟨i0, L, rfl, hi, Nat.le_refl _, rfl, rfl, hQ, Kp.refl _ _⟩
  case round =>
    obtain ⟨k, M, rfl, hk, hk0, hM, hup, hQr, hKwr⟩ := hrel
    have HU := Lib.hid hup
    have HM := Lib.hid hM
    have hM1 : M.length ≤ 4096 := by omega
    have hn2 : n ≤ 4096 := by omega
    have hk2 : k ≤ 4096 := by omega
    have hi2 : i0 ≤ 4096 := by omega
    by_cases hj : 2 * k + 1 < n
    · have hc := blk_cell hQr.1 0
      have Hqwr := Lib.hid hQr
      clear hup hQr hM hn hQ
      generalize hml : M.length = m at hc
      have Hml := Lib.hid hml
      clear hml
      have hme := meth_less hc
      clear hc
      by_cases hj2 : 2 * k + 2 < n
      · go_wp2_with fail
        have hl1 := less_int b c m (2 * (k : Int) + 1 + 1) (2 * (k : Int) + 1) M wr Hml.out (by have := Hml.out; omega) (by omega) (by have := Hml.out; have := HM.out; omega) (by omega) (by have := Hml.out; have := HM.out; omega) Hqwr.out.2
        with_reducible refine hl1.mono ?_
        clear hl1
        rintro e w1 ⟨rfl, hb1⟩
        have hq1 := (Hqwr.out.below hb1)
        have hc1 := blk_cell hq1.1 0
        rw [Hml.out] at hc1
        have hme1 := meth_less hc1
        have Hqw1 := Lib.hid hq1
        have hKw1 := hKwr.trans (Kp.of_below hb1 (· = b))
        clear hc1 hq1 hme
        rw [show (2 * (k : Int) + 1 + 1).toNat = 2 * k + 2 from by omega, show (2 * (k : Int) + 1).toNat = 2 * k + 1 from by omega]
        cases hlt1 : lessE (evAt M (2 * k + 2)) (evAt M (2 * k + 1)) with
        | false =>
          have hch : childL M k n = 2 * k + 1 := by unfold childL; rw [if_neg (by simp [hlt1])]
          have Hch := Lib.hid hch
          clear hch hlt1
          have := HM.out
          go_wp2_with fail
          have hl2 := less_int b c m (2 * (k : Int) + 1) (k : Int) M w1 Hml.out (by have := Hml.out; omega) (by omega) (by have := Hml.out; omega) (by omega) (by have := Hml.out; omega) Hqw1.out.2
          with_reducible refine hl2.mono ?_
          clear hl2
          rintro e w3 ⟨rfl, hb3⟩
          have hq3 := (Hqw1.out.below hb3)
          have hc3 := blk_cell hq3.1 0
          rw [Hml.out] at hc3
          have hms := meth_swap hc3
          have Hq3 := Lib.hid hq3
          clear hc3 hq3
          rw [show ((2 * (k : Int) + 1)).toNat = 2 * k + 1 from by omega, show ((k : Int)).toNat = k from by omega]
          have HK3 := hKw1.trans (Kp.of_below hb3 (· = b))
          cases hlt : lessE (evAt M (2 * k + 1)) (evAt M k) with
          | false =>
            have Hlt := Lib.hid hlt
            clear hlt
            go_wp2
            go_ret
            have hq := Hq3.out
            have h1 := HU.out
            have e1 := Hlt.out
            have e0 := Hch.out
            rw [downL, if_pos (by omega)] at h1
            simp only [e0, e1] at h1
            simp only [Bool.false_eq_true, if_false] at h1
            refine ⟨?_, HK3, ?_⟩
            · rw [← h1]; simp
            · rw [← h1]; exact hq
          | true =>
            have Hlt := Lib.hid hlt
            clear hlt
            go_wp2_with fail
            have hsw := swap_int b c m (k : Int) (2 * (k : Int) + 1) M w3 Hml.out (by have := Hml.out; omega) (by omega) (by have := Hml.out; omega) (by omega) (by have := Hml.out; omega) Hq3.out.2
            with_reducible refine hsw.mono ?_
            clear hsw
            rintro e w4 ⟨rfl, hk4, hr4⟩
            rw [show ((2 * (k : Int) + 1)).toNat = 2 * k + 1 from by omega, show ((k : Int)).toNat = k from by omega] at hr4
            have hq4 := Hq3.out.step hk4 hr4 (swapL_len _ _ _)
            have Hq4 := Lib.hid hq4
            clear hq4 hr4
            have hlen := (swapL_len M k (2 * k + 1)).trans HM.out
            have h1 := HU.out
            have e1 := Hlt.out
            have e0 := Hch.out
            rw [downL, if_pos (by omega)] at h1
            simp only [e0, e1, if_true] at h1
            have H1 := Lib.hid h1
            have Hlen := Lib.hid hlen
            clear h1 hlen e1 e0 Hlt Hch hms
            go_wp2
            go_roundw
            case rel => exact ⟨2 * k + 1, _, by first | rfl | go_num, by omega, by omega, Hlen.out, H1.out, Hq4.out, HK3.trans hk4⟩
            case measure => simp [intOf]; omega
        | true =>
          have hch : childL M k n = 2 * k + 2 := by unfold childL; rw [if_pos ⟨hj2, hlt1⟩]
          have Hch := Lib.hid hch
          clear hch hlt1
          have := HM.out
          go_wp2_with fail
          have hl2 := less_int b c m (2 * (k : Int) + 1 + 1) (k : Int) M w1 Hml.out (by have := Hml.out; omega) (by omega) (by have := Hml.out; omega) (by omega) (by have := Hml.out; omega) Hqw1.out.2
          with_reducible refine hl2.mono ?_
          clear hl2
          rintro e w3 ⟨rfl, hb3⟩
          have hq3 := (Hqw1.out.below hb3)
          have hc3 := blk_cell hq3.1 0
          rw [Hml.out] at hc3
          have hms := meth_swap hc3
          have Hq3 := Lib.hid hq3
          clear hc3 hq3
          rw [show ((2 * (k : Int) + 1 + 1)).toNat = 2 * k + 2 from by omega, show ((k : Int)).toNat = k from by omega]
          have HK3 := hKw1.trans (Kp.of_below hb3 (· = b))
          cases hlt : lessE (evAt M (2 * k + 2)) (evAt M k) with
          | false =>
            have Hlt := Lib.hid hlt
            clear hlt
            go_wp2
            go_ret
            have hq := Hq3.out
            have h1 := HU.out
            have e1 := Hlt.out
            have e0 := Hch.out
            rw [downL, if_pos (by omega)] at h1
            simp only [e0, e1] at h1
            simp only [Bool.false_eq_true, if_false] at h1
            refine ⟨?_, HK3, ?_⟩
            · rw [← h1]; simp
            · rw [← h1]; exact hq
          | true =>
            have Hlt := Lib.hid hlt
            clear hlt
            go_wp2_with fail
            have hsw := swap_int b c m (k : Int) (2 * (k : Int) + 1 + 1) M w3 Hml.out (by have := Hml.out; omega) (by omega) (by have := Hml.out; omega) (by omega) (by have := Hml.out; omega) Hq3.out.2
            with_reducible refine hsw.mono ?_
            clear hsw
            rintro e w4 ⟨rfl, hk4, hr4⟩
            rw [show ((2 * (k : Int) + 1 + 1)).toNat = 2 * k + 2 from by omega, show ((k : Int)).toNat = k from by omega] at hr4
            have hq4 := Hq3.out.step hk4 hr4 (swapL_len _ _ _)
            have Hq4 := Lib.hid hq4
            clear hq4 hr4
            have hlen := (swapL_len M k (2 * k + 2)).trans HM.out
            have h1 := HU.out
            have e1 := Hlt.out
            have e0 := Hch.out
            rw [downL, if_pos (by omega)] at h1
            simp only [e0, e1, if_true] at h1
            have H1 := Lib.hid h1
            have Hlen := Lib.hid hlen
            clear h1 hlen e1 e0 Hlt Hch hms
            go_wp2
            go_roundw
            case rel => exact ⟨2 * k + 2, _, by first | rfl | go_num, by omega, by omega, Hlen.out, H1.out, Hq4.out, HK3.trans hk4⟩
            case measure => simp [intOf]; omega
      · have hch : childL M k n = 2 * k + 1 := by unfold childL; rw [if_neg (by omega)]
        have Hch := Lib.hid hch
        clear hch
        have := HM.out
        go_wp2_with fail
        have hl2 := less_int b c m (2 * (k : Int) + 1) (k : Int) M wr Hml.out (by have := Hml.out; omega) (by omega) (by have := Hml.out; omega) (by omega) (by have := Hml.out; omega) Hqwr.out.2
        with_reducible refine hl2.mono ?_
        clear hl2
        rintro e w3 ⟨rfl, hb3⟩
        have hq3 := (Hqwr.out.below hb3)
        have hc3 := blk_cell hq3.1 0
        rw [Hml.out] at hc3
        have hms := meth_swap hc3
        have Hq3 := Lib.hid hq3
        clear hc3 hq3
        rw [show ((2 * (k : Int) + 1)).toNat = 2 * k + 1 from by omega, show ((k : Int)).toNat = k from by omega]
        have HK3 := hKwr.trans (Kp.of_below hb3 (· = b))
        cases hlt : lessE (evAt M (2 * k + 1)) (evAt M k) with
        | false =>
          have Hlt := Lib.hid hlt
          clear hlt
          go_wp2
          go_ret
          have hq := Hq3.out
          have h1 := HU.out
          have e1 := Hlt.out
          have e0 := Hch.out
          rw [downL, if_pos (by omega)] at h1
          simp only [e0, e1] at h1
          simp only [Bool.false_eq_true, if_false] at h1
          refine ⟨?_, HK3, ?_⟩
          · rw [← h1]; simp
          · rw [← h1]; exact hq
        | true =>
          have Hlt := Lib.hid hlt
          clear hlt
          go_wp2_with fail
          have hsw := swap_int b c m (k : Int) (2 * (k : Int) + 1) M w3 Hml.out (by have := Hml.out; omega) (by omega) (by have := Hml.out; omega) (by omega) (by have := Hml.out; omega) Hq3.out.2
          with_reducible refine hsw.mono ?_
          clear hsw
          rintro e w4 ⟨rfl, hk4, hr4⟩
          rw [show ((2 * (k : Int) + 1)).toNat = 2 * k + 1 from by omega, show ((k : Int)).toNat = k from by omega] at hr4
          have hq4 := Hq3.out.step hk4 hr4 (swapL_len _ _ _)
          have Hq4 := Lib.hid hq4
          clear hq4 hr4
          have hlen := (swapL_len M k (2 * k + 1)).trans HM.out
          have h1 := HU.out
          have e1 := Hlt.out
          have e0 := Hch.out
          rw [downL, if_pos (by omega)] at h1
          simp only [e0, e1, if_true] at h1
          have H1 := Lib.hid h1
          have Hlen := Lib.hid hlen
          clear h1 hlen e1 e0 Hlt Hch hms
          go_wp2
          go_roundw
          case rel => exact ⟨2 * k + 1, _, by first | rfl | go_num, by omega, by omega, Hlen.out, H1.out, Hq4.out, HK3.trans hk4⟩
          case measure => simp [intOf]; omega
    · have Hqwr := Lib.hid hQr
      clear hup hQr hM hn hQ
      have hj2 : ¬ 2 * k + 2 < n := by omega
      go_wp2
      go_ret
      have h1 := HU.out
      rw [downL, if_neg hj] at h1
      refine ⟨?_, hKwr, ?_⟩
      · rw [← h1]; simp
      · rw [← h1]; exact Hqwr.out
end Go.Proofs.Ytebcbjmdkbmnkaa
