/- LevelRuns: the statement's own function, walked. -/
import Derived.Test.YtonnmkhmhndalaaDoorAw1
import Derived.Test.YtonnmkhmhndalaaDoorMy2
import Derived.Test.YtonnmkhmhndalaaDoorLw3
namespace Go.Proofs.YtonnmkhmhndalaaDoor
set_option linter.unusedVariables false
set_option linter.unusedSimpArgs false
open Go.RowKit Go.Proofs.YtonnmkhmhndalaaDoorW.PrintWords Go.Proofs.YtonnmkhmhndalaaDoorW.PrintLast Go.Proofs.YtonnmkhmhndalaaDoorW.PrintMore

theorem LRes.det {n : Nat} {hs : Nat → List Nat} {out out' : Nat → Nat} {done done' : Nat → Bool} {cnt cnt' : Nat} (h : LRes n hs out done cnt) (h' : LRes n hs out' done' cnt') (hl : ∀ k, k < n → ∀ h ∈ hs k, h < n) : (cnt < n ↔ cnt' < n) := by
  constructor
  · intro h1
    rcases Nat.lt_or_ge cnt' n with h2 | h2
    · exact h2
    · have := h'.le
      obtain rfl : cnt' = n := by omega
      exact (h.nofix hl h1 out' h'.lev.up).elim
  · intro h1
    rcases Nat.lt_or_ge cnt n with h2 | h2
    · exact h2
    · have := h.le
      obtain rfl : cnt = n := by omega
      exact (h'.nofix hl h1 out h.lev.up).elim
theorem LoopP.path {w w' : World} {x : NL} {e : Ending} (h : LoopP w x e w') (hm : mayL x = true) (hn : ∀ out done cnt, LRes x.nd.length (hs x.nd) out done cnt → cnt < x.nd.length) :
    ∃ p A c, e = .returned (.slice A p.length c) ∧ Looped x.nd.length (hs x.nd) p ∧ Kd.C (Kd.int .i64) w' A p.length (ints p) ∧ Below w.heap.size w w' := by
  obtain ⟨hb, hc⟩ := h
  rcases hc with ⟨h1, -⟩ | ⟨-, out, done, cnt, hres, hc⟩
  · rw [hm] at h1; cases h1
  · have := hn out done cnt hres
    rcases hc with ⟨h1, -⟩ | ⟨-, p, A, c, rfl, -, hlo, hC⟩
    · omega
    · exact ⟨p, A, c, rfl, hlo, hC, hb⟩
theorem LoopP.none {w w' : World} {x : NL} {e : Ending} (h : LoopP w x e w') (hn : mayL x = true → ∀ out done cnt, LRes x.nd.length (hs x.nd) out done cnt → cnt = x.nd.length) :
    e = .returned (.slice none 0 0) ∧ Below w.heap.size w w' := by
  obtain ⟨hb, hc⟩ := h
  rcases hc with ⟨-, rfl⟩ | ⟨hm, out, done, cnt, hres, hc⟩
  · exact ⟨rfl, hb⟩
  · have := hn hm out done cnt hres
    rcases hc with ⟨-, rfl⟩ | ⟨h1, -⟩
    · exact ⟨rfl, hb⟩
    · omega
set_option maxRecDepth 100000 in
set_option maxHeartbeats 8000000 in
theorem levelRuns_any (x : NL) (A : Option Addr) (c : Nat) (B : Option Addr) (d : Nat) (w : World) (hI : NIn w x A c B d) :
    Calls Tryd.prog 3 #[nlV x A c B d] w fun e w' => e = .returned (.bool true) ∧ Below w.heap.size w w' := by
  have HI := Lib.hid hI
  have haw := awake_any
  have HAw := Lib.hid haw
  clear hI haw
  go_enter Tryd.func3, Tryd.ntmps3
  go_upto_region 1 with fail
  obtain ⟨W0, hW0⟩ : ∃ W, w.alloc (Obj.cells #[.slice A x.nd.length c, .slice B x.nt.length d, .int .i64 x.pt] 25) = W := ⟨_, rfl⟩
  rw [hW0]
  obtain ⟨hx0, hb0, hz0⟩ := box_list hW0
  have HX0 := Lib.hid hx0
  have HB0 := Lib.hid hb0
  obtain ⟨q0, q1, q2⟩ := HX0.out
  clear hx0 hb0 hz0 hW0
  have hways : (decide ((x.nd.length : Int) > 200) = true ∧ decide ((x.nd.length : Int) ≤ 4096) = true) ∨ (decide ((x.nd.length : Int) > 200) = false ∨ (decide ((x.nd.length : Int) > 200) = true ∧ decide ((x.nd.length : Int) ≤ 4096) = false)) := by
    by_cases h1 : 200 < x.nd.length
    · by_cases h2 : x.nd.length ≤ 4096
      · exact Or.inl ⟨decide_eq_true (by omega), decide_eq_true (by omega)⟩
      · exact Or.inr (Or.inr ⟨decide_eq_true (by omega), decide_eq_false (by omega)⟩)
    · exact Or.inr (Or.inl (decide_eq_false (by omega)))
  rcases hways with ⟨g1, g2⟩ | hways
  · have g1b : 200 < (x.nd.length : Int) := of_decide_eq_true g1
    have g2b : (x.nd.length : Int) ≤ 4096 := of_decide_eq_true g2
    go_wp2_with fail
    refine (HAw.out _).mono ?_
    rintro e w1 ⟨rfl, hb1⟩
    have HB1 := Lib.hid (HB0.out.trans (hb1.mono HB0.out.size))
    clear hb1
    go_wp2_with fail
    go_ret
    exact ⟨by try rfl, HB1.out⟩
  · have hr1 := run_any x A c B d W0 (HI.out.below HB0.out)
    have HR1 := Lib.hid hr1
    clear hr1
    have hgo : ∀ w1, Below w.heap.size w w1 → True := fun _ _ => trivial
    clear hgo
    rcases hways with g1 | ⟨g1, g2⟩
    all_goals
      have HG := Lib.hid g1
      try have HG2 := Lib.hid g2
      go_upto_region 3 with fail
      go_wp2_with fail
      refine HR1.out.mono ?_
      rintro e w1 ⟨hb1, hcs⟩
      have HB1 := Lib.hid (HB0.out.trans (hb1.mono HB0.out.size))
      have HX1 := Lib.hid (HX0.out.below hb1)
      have HCs := Lib.hid hcs
      have hmr := mayR_any x A c B d w1 (HI.out.below HB1.out)
      have HMr := Lib.hid hmr
      clear hb1 hcs hmr q0 q1 q2
      obtain ⟨q0, q1, q2⟩ := HX1.out
      rcases HCs.out with ⟨hm, rfl⟩ | ⟨hm, out, done, cnt, hres, hcs⟩
      · rw [hm] at HMr
        have HM := Lib.hid hm
        clear hm
        go_wp2_with fail
        refine HMr.out.mono ?_
        rintro e w2 ⟨rfl, hb2⟩
        have HB2 := Lib.hid (HB1.out.trans (hb2.mono HB1.out.size))
        have HX2 := Lib.hid (HX1.out.below hb2)
        have hlp := loop_any x A c B d w2 (HI.out.below HB2.out)
        have HLp := Lib.hid hlp
        clear hb2 q0 q1 q2 hlp
        obtain ⟨q0, q1, q2⟩ := HX2.out
        go_wp2_with fail
        refine HLp.out.mono ?_
        rintro e w3 ⟨hb3, hcl⟩
        rcases hcl with ⟨-, rfl⟩ | ⟨hm, -⟩
        case inr => rw [HM.out] at hm; cases hm
        have HB3 := Lib.hid (HB2.out.trans (hb3.mono HB2.out.size))
        clear hb3
        go_wp2_with fail
        refine (HAw.out _).mono ?_
        rintro e w4 ⟨rfl, hb4⟩
        have HB4 := Lib.hid (HB3.out.trans (hb4.mono HB3.out.size))
        clear hb4
        go_wp2_with fail
        go_ret
        exact ⟨by try rfl, HB4.out⟩
      · rw [hm] at HMr
        have HM := Lib.hid hm
        have HLk := Lib.hid ((may_iff x).1 hm).lok
        have HRs := Lib.hid hres
        clear hm hres
        rcases hcs with ⟨hlt, rfl⟩ | ⟨heq, D, hD, rfl, hO⟩
        · have HLt := Lib.hid hlt
          clear hlt
          go_wp2_with fail
          refine HMr.out.mono ?_
          rintro e w2 ⟨rfl, hb2⟩
          have HB2 := Lib.hid (HB1.out.trans (hb2.mono HB1.out.size))
          have HX2 := Lib.hid (HX1.out.below hb2)
          have hlv := lvr_any x A c B d w2 (HI.out.below HB2.out) HLk.out
          have HLv := Lib.hid hlv
          clear hb2 q0 q1 q2 hlv
          obtain ⟨q0, q1, q2⟩ := HX2.out
          go_wp2_with fail
          refine HLv.out.mono ?_
          rintro e w3 ⟨hb3, hcl⟩
          rcases hcl with ⟨D, o2, -, -, -, hfix, -⟩ | ⟨rfl, -⟩
          · exact (HRs.out.nofix HLk.out.hsl HLt.out o2 hfix).elim
          have HB3 := Lib.hid (HB2.out.trans (hb3.mono HB2.out.size))
          have HX3 := Lib.hid (HX2.out.below hb3)
          have hlp := fun W hW => (loop_any x A c B d W (HI.out.below hW)).mono fun e w' h => LoopP.path h HM.out (fun out' done' cnt' h' => (LRes.det HRs.out h' HLk.out.hsl).1 HLt.out)
          have HLp := Lib.hid hlp
          have hlo := fun W p Ap cp hW hp hl => looped_any x A c B d p Ap cp W (HI.out.below hW) HLk.out hp hl
          have HLo := Lib.hid hlo
          clear hb3 q0 q1 q2 hlp hlo
          obtain ⟨q0, q1, q2⟩ := HX3.out
          have mkS : ∀ W, Below w3.heap.size w3 W → Below w3.heap.size w3 W ∧ W.cell? ⟨w.heap.size, 0, none⟩ = some (.slice A x.nd.length c) ∧ W.cell? ⟨w.heap.size, 1, none⟩ = some (.slice B x.nt.length d) ∧ W.cell? ⟨w.heap.size, 2, none⟩ = some (.int .i64 x.pt) := fun W hW => by
            obtain ⟨a, b, c⟩ := HX3.out.below hW
            exact ⟨hW, a, b, c⟩
          have MkS := Lib.hid mkS
          clear mkS
          go_upto_region 8 with fail
          go_region_held3 (fun w' => Below w3.heap.size w3 w' ∧ w'.cell? ⟨w.heap.size, 0, none⟩ = some (.slice A x.nd.length c) ∧ w'.cell? ⟨w.heap.size, 1, none⟩ = some (.slice B x.nt.length d) ∧ w'.cell? ⟨w.heap.size, 2, none⟩ = some (.int .i64 x.pt))
            (first | exact MkS.out _ (Below.refl _ _).drew | exact MkS.out _ hnew)
            (first
              | (go_at_call 15; go_split_ands; refine (HLp.out _ ?_).mono ?_; exact HB3.out.trans (Below.mono (w := w3) (by assumption) HB3.out.size); rintro e w9 ⟨p, Ap, cp, rfl, hlo9, hC9, hb9⟩; have HLo9 := Lib.hid hlo9; have HC9 := Lib.hid hC9; have hnew := Below.trans (a := w3) (by assumption) (hb9.mono (Below.size (w := w3) (by assumption))); clear hb9 hlo9 hC9)
              | (go_at_call 17; go_split_ands; refine (HLo.out _ p _ _ ?_ HC9.out HLo9.out).mono ?_; exact HB3.out.trans (Below.mono (w := w3) (by assumption) HB3.out.size); rintro e w10 ⟨rfl, hb10⟩; have hnew := Below.trans (a := w3) (by assumption) (hb10.mono (Below.size (w := w3) (by assumption))); clear hb10)
              | (go_at_call 12; go_split_ands; refine (HAw.out _).mono ?_; rintro e w11 ⟨rfl, hb11⟩; have hnew := Below.trans (a := w3) (by assumption) (hb11.mono (Below.size (w := w3) (by assumption))); clear hb11))
          have HBf := Lib.hid (HB3.out.trans (hnew.mono HB3.out.size))
          clear hnew
          go_wp2_with fail
          go_ret
          exact ⟨by try rfl, HBf.out⟩
        · have HEq := Lib.hid heq
          have HO := Lib.hid hO
          have hIL : IsLev x.nd.length (hs x.nd) out := by
            have h1 := HRs.out
            rw [heq] at h1
            exact h1.lev
          have HIL := Lib.hid hIL
          clear heq hO hIL hD
          go_wp2_with fail
          refine HMr.out.mono ?_
          rintro e w2 ⟨rfl, hb2⟩
          have HB2 := Lib.hid (HB1.out.trans (hb2.mono HB1.out.size))
          have HX2 := Lib.hid (HX1.out.below hb2)
          have HO2 := Lib.hid (HO.out.below hb2 HO.out.s)
          have hlv := lvr_any x A c B d w2 (HI.out.below HB2.out) HLk.out
          have HLv := Lib.hid hlv
          clear hb2 q0 q1 q2 hlv
          obtain ⟨q0, q1, q2⟩ := HX2.out
          go_wp2_with fail
          refine HLv.out.mono ?_
          rintro e w3 ⟨hb3, hcl⟩
          rcases hcl with ⟨D2, o2, rfl, -, hO3, -, heq2⟩ | ⟨-, hno⟩
          case inr => exact (hno out HIL.out).elim
          have HO3 := Lib.hid hO3
          have HEq2 := Lib.hid (heq2 out HIL.out)
          have HB3 := Lib.hid (HB2.out.trans (hb3.mono HB2.out.size))
          have HX3 := Lib.hid (HX2.out.below hb3)
          have HO4 := Lib.hid (HO2.out.below hb3 HO2.out.s)
          have hlp := (loop_any x A c B d w3 (HI.out.below HB3.out)).mono fun e w' h => LoopP.none h (fun _ out' done' cnt' h' => by
            have h1 := (LRes.det HRs.out h' HLk.out.hsl)
            have h2 := h'.le
            have h3 := HEq.out
            omega)
          have HLp := Lib.hid hlp
          clear hb3 hO3 heq2 q0 q1 q2 hlp
          obtain ⟨q0, q1, q2⟩ := HX3.out
          go_wp2_with fail
          refine HLp.out.mono ?_
          rintro e w4 ⟨rfl, hb4⟩
          have HB4 := Lib.hid (HB3.out.trans (hb4.mono HB3.out.size))
          have HO5 := Lib.hid (HO4.out.below hb4 HO4.out.s)
          have HO6 := Lib.hid (HO3.out.below hb4 HO3.out.s)
          clear hb4 q0 q1 q2
          obtain ⟨n, hn⟩ : ∃ n, x.nd.length = n := ⟨_, rfl⟩
          rw [hn] at HO5 HO6 HEq2
          have hn4 : n ≤ 4096 := by rw [← hn]; exact HLk.out.n
          go_wp2_with fail
          clear hn
          go_loopw [7] (fun v7 wx => ∃ i : Nat, v7 = .int .i64 i ∧ i ≤ n ∧ Hid (Below w4.heap.size w4 wx)) (fun v7 _ => n - (intOf v7).toNat)
          case atStart => exact ⟨0, rfl, Nat.zero_le _, Lib.hid (Below.refl _ _)⟩
          case round =>
            obtain ⟨i, rfl, hi, HBx⟩ := hrel
            by_cases hlt : i < n
            · have c1 := (HO5.out.below HBx.out HO5.out.s).c i hlt
              have c2 := (HO6.out.below HBx.out HO6.out.s).c i hlt
              rw [HEq2.out i hlt] at c2
              have HLt := Lib.hid hlt
              go_upto_region 14 with fail
              go_region
              go_wp2_with fail
              refine ⟨⟨i + 1, by simp, HLt.out, Lib.hid HBx.out.drew⟩, by have := HLt.out; simp [intOf]; omega⟩
            · obtain rfl : i = n := by omega
              have HB5 := Lib.hid (HB4.out.trans (HBx.out.mono HB4.out.size))
              go_wp2_with fail
              refine (HAw.out _).mono ?_
              rintro e w5 ⟨rfl, hb5⟩
              have HB6 := Lib.hid (HB5.out.trans (hb5.mono HB5.out.size))
              clear hb5
              go_wp2_with fail
              go_ret
              exact ⟨by try rfl, HB6.out⟩
end Go.Proofs.YtonnmkhmhndalaaDoor
