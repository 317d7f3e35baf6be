/- PartLoops: the statement's own function, walked. -/
import Derived.Test.YtonnmkhmhndalaaDoorZq
import Derived.Test.YtonnmkhmhndalaaDoorZt
section
namespace Go.Proofs.YtonnmkhmhndalaaDoor
set_option linter.unusedVariables false
set_option linter.unusedSimpArgs false
open Go.RowKit Go.Proofs.YtonnmkhmhndalaaDoorW.PrintWords Go.Proofs.YtonnmkhmhndalaaDoorW.PrintLast Go.Proofs.YtonnmkhmhndalaaDoorW.PrintMore
set_option maxRecDepth 100000 in
set_option maxHeartbeats 8000000 in
theorem partLoops_any (x : NL) (A : Option Addr) (c : Nat) (B : Option Addr) (d : Nat) (k : Int) (w : World) (hI : NIn w x A c B d) (hwf : (Lit.int .i64 k).wf = true) :
    Calls Tryd.prog 10 #[nlV x A c B d, .int .i64 k] w fun e w' => e = .returned (.bool true) ∧ Below w.heap.size w w' := by
  have HI := Lib.hid hI
  have haw := awake13_any
  have HAw := Lib.hid haw
  clear hI haw
  go_enter Tryd.func10, Tryd.ntmps10
  go_upto_region 1 with fail
  obtain ⟨W0, hW0⟩ : ∃ W, w.alloc (Obj.cells #[.slice A x.nd.length c, .slice B x.nt.length d, .int .i64 x.pt] 25) = W := ⟨_, rfl⟩
  rw [hW0]
  obtain ⟨hx0, hb0, hz0⟩ := box_list hW0
  obtain ⟨L, hL⟩ : ∃ L, w.heap.size = L := ⟨_, rfl⟩
  rw [hL] at hx0 ⊢
  have HX0 := Lib.hid hx0
  have HB0 := Lib.hid hb0
  obtain ⟨q0, q1, q2⟩ := HX0.out
  clear hx0 hb0 hz0 hW0 hL
  have hways : (decide ((x.nd.length : Int) > 200) = true ∧ decide ((x.nd.length : Int) ≤ 4096) = true) ∨ (decide ((x.nd.length : Int) > 200) = false ∨ (decide ((x.nd.length : Int) > 200) = true ∧ decide ((x.nd.length : Int) ≤ 4096) = false)) := by
    by_cases h1 : 200 < x.nd.length
    · by_cases h2 : x.nd.length ≤ 4096
      · exact Or.inl ⟨decide_eq_true (by omega), decide_eq_true (by omega)⟩
      · exact Or.inr (Or.inr ⟨decide_eq_true (by omega), decide_eq_false (by omega)⟩)
    · exact Or.inr (Or.inl (decide_eq_false (by omega)))
  rcases hways with ⟨g1, g2⟩ | hways
  · have g1b : 200 < (x.nd.length : Int) := of_decide_eq_true g1
    have g2b : (x.nd.length : Int) ≤ 4096 := of_decide_eq_true g2
    go_wp2_with fail
    refine (HAw.out _).mono ?_
    rintro e w1 ⟨rfl, hb1⟩
    have HB1 := Lib.hid (HB0.out.trans (hb1.mono HB0.out.size))
    clear hb1
    go_wp2_with fail
    go_ret
    exact ⟨by try rfl, HB1.out⟩
  · have hr1 := prun_any x A c B d k W0 (HI.out.below HB0.out)
    have HR1 := Lib.hid hr1
    clear hr1
    rcases hways with g1 | ⟨g1, g2⟩
    all_goals
      have HG := Lib.hid g1
      try have HG2 := Lib.hid g2
      go_upto_region 3 with fail
      go_wp2_with fail
      refine HR1.out.mono ?_
      rintro e w1 ⟨hb1, hcs⟩
      have HB1 := Lib.hid (HB0.out.trans (hb1.mono HB0.out.size))
      have HX1 := Lib.hid (HX0.out.below hb1)
      have HCs := Lib.hid hcs
      clear hb1 hcs q0 q1 q2
      rcases HCs.out with ⟨hk, rfl⟩ | ⟨hk, ⟨hm, rfl⟩ | ⟨hm, out, done, cnt, hres, hcs⟩⟩
      · go_upto_region 4 with fail
        obtain ⟨W2, hW2⟩ : ∃ W, w1.alloc (Obj.cells #[.slice none 0 0, .int .i64 0, .slice none 0 0] 46) = W := ⟨_, rfl⟩
        try rw [hW2]
        obtain ⟨hp2, hb2, hz2⟩ := box_parts hW2
        obtain ⟨T, hT⟩ : ∃ T, w1.heap.size = T := ⟨_, rfl⟩
        rw [hT] at hp2 ⊢
        have HP2 := Lib.hid hp2
        have HB2 := Lib.hid (HB1.out.trans (hb2.mono HB1.out.size))
        have HX2 := Lib.hid (HX1.out.below hb2)
        have hmr := mayR_any x A c B d W2 (HI.out.below HB2.out)
        have HMr := Lib.hid hmr
        obtain ⟨q0, q1, q2⟩ := HX2.out
        obtain ⟨p0, p1, p2⟩ := HP2.out
        clear hp2 hb2 hz2 hW2 hT hmr
        rcases (show k < 1 ∨ (¬ k < 1 ∧ k > 64) by omega) with h1 | ⟨h1, h2⟩
        · have gk1 : decide (k < 1) = true := decide_eq_true h1
          go_wp2_with fail
          refine (HAw.out _).mono ?_
          rintro e w9 ⟨rfl, hb9⟩
          have HB9 := Lib.hid (HB2.out.trans (hb9.mono HB2.out.size))
          clear hb9
          go_wp2_with fail
          go_ret
          exact ⟨by try rfl, HB9.out⟩
        · have gk1 : decide (k < 1) = false := decide_eq_false h1
          have gk2 : decide (k > 64) = true := decide_eq_true h2
          have gk3 : decide (64 < k) = true := decide_eq_true h2
          go_wp2_with fail
          refine (HAw.out _).mono ?_
          rintro e w9 ⟨rfl, hb9⟩
          have HB9 := Lib.hid (HB2.out.trans (hb9.mono HB2.out.size))
          clear hb9
          go_wp2_with fail
          go_ret
          exact ⟨by try rfl, HB9.out⟩
      · have gk1 : decide (k < 1) = false := decide_eq_false (by omega)
        have gk2 : decide (k > 64) = false := decide_eq_false (by omega)
        have gk3 : decide (64 < k) = false := decide_eq_false (by omega)
        go_upto_region 4 with fail
        obtain ⟨W2, hW2⟩ : ∃ W, w1.alloc (Obj.cells #[.slice none 0 0, .int .i64 0, .slice none 0 0] 46) = W := ⟨_, rfl⟩
        try rw [hW2]
        obtain ⟨hp2, hb2, hz2⟩ := box_parts hW2
        obtain ⟨T, hT⟩ : ∃ T, w1.heap.size = T := ⟨_, rfl⟩
        rw [hT] at hp2 ⊢
        have HP2 := Lib.hid hp2
        have HB2 := Lib.hid (HB1.out.trans (hb2.mono HB1.out.size))
        have HX2 := Lib.hid (HX1.out.below hb2)
        have hmr := mayR_any x A c B d W2 (HI.out.below HB2.out)
        have HMr := Lib.hid hmr
        obtain ⟨q0, q1, q2⟩ := HX2.out
        obtain ⟨p0, p1, p2⟩ := HP2.out
        clear hp2 hb2 hz2 hW2 hT hmr
        rw [hm] at HMr
        go_wp2_with fail
        refine HMr.out.mono ?_
        rintro e w3 ⟨rfl, hb3⟩
        have HB3 := Lib.hid (HB2.out.trans (hb3.mono HB2.out.size))
        obtain ⟨p0, p1, p2⟩ := HP2.out.below hb3
        clear hb3 hm
        go_wp2_with fail
        refine (HAw.out _).mono ?_
        rintro e w9 ⟨rfl, hb9⟩
        have HB9 := Lib.hid (HB3.out.trans (hb9.mono HB3.out.size))
        clear hb9
        go_wp2_with fail
        go_ret
        exact ⟨by try rfl, HB9.out⟩
      · have HM := Lib.hid hm
        have HLk := Lib.hid ((may_iff x).1 hm)
        have HRs := Lib.hid hres
        have HK := Lib.hid hk
        have gk1 : decide (k < 1) = false := decide_eq_false (by omega)
        have gk2 : decide (k > 64) = false := decide_eq_false (by omega)
        have gk3 : decide (64 < k) = false := decide_eq_false (by omega)
        clear hm hres hk
        rcases hcs with ⟨hlt, rfl⟩ | ⟨heq, hn0, rfl⟩ | ⟨heq, hn0, p, Bo, D, N, rfl, hM⟩
        · have HLt := Lib.hid hlt
          clear hlt
          go_upto_region 4 with fail
          obtain ⟨W2, hW2⟩ : ∃ W, w1.alloc (Obj.cells #[.slice none 0 0, .int .i64 0, .slice none 0 0] 46) = W := ⟨_, rfl⟩
          try rw [hW2]
          obtain ⟨hp2, hb2, hz2⟩ := box_parts hW2
          obtain ⟨T, hT⟩ : ∃ T, w1.heap.size = T := ⟨_, rfl⟩
          rw [hT] at hp2 ⊢
          have HP2 := Lib.hid hp2
          have HB2 := Lib.hid (HB1.out.trans (hb2.mono HB1.out.size))
          have HX2 := Lib.hid (HX1.out.below hb2)
          have hmr := mayR_any x A c B d W2 (HI.out.below HB2.out)
          have HMr := Lib.hid hmr
          obtain ⟨q0, q1, q2⟩ := HX2.out
          obtain ⟨p0, p1, p2⟩ := HP2.out
          clear hp2 hb2 hz2 hW2 hT hmr
          rw [HM.out] at HMr
          go_wp2_with fail
          refine HMr.out.mono ?_
          rintro e w3 ⟨rfl, hb3⟩
          have HB3 := Lib.hid (HB2.out.trans (hb3.mono HB2.out.size))
          have HX3 := Lib.hid (HX2.out.below hb3)
          have HP3 := Lib.hid (HP2.out.below hb3)
          have hlv := lvr_any x A c B d w3 (HI.out.below HB3.out) HLk.out.lok
          have HLv := Lib.hid hlv
          clear hb3 hlv q0 q1 q2 p0 p1 p2
          obtain ⟨q0, q1, q2⟩ := HX3.out
          obtain ⟨p0, p1, p2⟩ := HP3.out
          go_wp2_with fail
          refine HLv.out.mono ?_
          rintro e w4 ⟨hb4, hcl⟩
          have HB4 := Lib.hid (HB3.out.trans (hb4.mono HB3.out.size))
          have HX4 := Lib.hid (HX3.out.below hb4)
          have HP4 := Lib.hid (HP3.out.below hb4)
          clear q0 q1 q2 p0 p1 p2
          obtain ⟨q0, q1, q2⟩ := HX4.out
          obtain ⟨p0, p1, p2⟩ := HP4.out
          rcases hcl with ⟨D, o2, -, -, -, hfix, -⟩ | ⟨rfl, -⟩
          · exact (HRs.out.nofix HLk.out.lok.hsl HLt.out o2 hfix).elim
          clear hb4
          go_wp2_with fail
          refine (HAw.out _).mono ?_
          rintro e w9 ⟨rfl, hb9⟩
          have HB9 := Lib.hid (HB4.out.trans (hb9.mono HB4.out.size))
          clear hb9
          go_wp2_with fail
          go_ret
          exact ⟨by try rfl, HB9.out⟩
        · have HEq := Lib.hid heq
          have HN0 := Lib.hid hn0
          clear heq hn0
          go_upto_region 4 with fail
          obtain ⟨W2, hW2⟩ : ∃ W, w1.alloc (Obj.cells #[.slice none 0 0, .int .i64 0, .slice none 0 0] 46) = W := ⟨_, rfl⟩
          try rw [hW2]
          obtain ⟨hp2, hb2, hz2⟩ := box_parts hW2
          obtain ⟨T, hT⟩ : ∃ T, w1.heap.size = T := ⟨_, rfl⟩
          rw [hT] at hp2 ⊢
          have HP2 := Lib.hid hp2
          have HB2 := Lib.hid (HB1.out.trans (hb2.mono HB1.out.size))
          have HX2 := Lib.hid (HX1.out.below hb2)
          have hmr := mayR_any x A c B d W2 (HI.out.below HB2.out)
          have HMr := Lib.hid hmr
          obtain ⟨q0, q1, q2⟩ := HX2.out
          obtain ⟨p0, p1, p2⟩ := HP2.out
          clear hp2 hb2 hz2 hW2 hT hmr
          rw [HM.out] at HMr
          go_wp2_with fail
          refine HMr.out.mono ?_
          rintro e w3 ⟨rfl, hb3⟩
          have HB3 := Lib.hid (HB2.out.trans (hb3.mono HB2.out.size))
          have HX3 := Lib.hid (HX2.out.below hb3)
          have HP3 := Lib.hid (HP2.out.below hb3)
          have hlv := lvr_any x A c B d w3 (HI.out.below HB3.out) HLk.out.lok
          have HLv := Lib.hid hlv
          clear hb3 hlv q0 q1 q2 p0 p1 p2
          obtain ⟨q0, q1, q2⟩ := HX3.out
          obtain ⟨p0, p1, p2⟩ := HP3.out
          go_wp2_with fail
          refine HLv.out.mono ?_
          rintro e w4 ⟨hb4, hcl⟩
          have HB4 := Lib.hid (HB3.out.trans (hb4.mono HB3.out.size))
          have HX4 := Lib.hid (HX3.out.below hb4)
          have HP4 := Lib.hid (HP3.out.below hb4)
          clear q0 q1 q2 p0 p1 p2
          obtain ⟨q0, q1, q2⟩ := HX4.out
          obtain ⟨p0, p1, p2⟩ := HP4.out
          have hlev : IsLev x.nd.length (hs x.nd) out := by
            have h := HRs.out
            rw [HEq.out] at h
            exact h.lev
          rcases hcl with ⟨D4, o2, rfl, -, -, -, -⟩ | ⟨-, hno⟩
          case inr => exact absurd hlev (hno out)
          clear hb4 hlev
          have gn0 : ((x.nd.length : Int) == 0) = true := by rw [HN0.out]; rfl
          go_wp2_with fail
          refine (HAw.out _).mono ?_
          rintro e w9 ⟨rfl, hb9⟩
          have HB9 := Lib.hid (HB4.out.trans (hb9.mono HB4.out.size))
          clear hb9
          go_wp2_with fail
          go_ret
          exact ⟨by try rfl, HB9.out⟩
        · have HEq := Lib.hid heq
          have HN0 := Lib.hid hn0
          have HPi1 := Lib.hid (hM.inn (by have := HLk.out.n; omega))
          have HPv := Lib.hid hM.val
          have HPm := Lib.hid hM.may
          clear heq hn0 hM
          go_upto_region 4 with fail
          obtain ⟨W2, hW2⟩ : ∃ W, w1.alloc (Obj.cells #[.slice (some ⟨Bo, 0, none⟩) x.nd.length x.nd.length, .int .i64 N, .slice (some ⟨D, 0, none⟩) N N] 46) = W := ⟨_, rfl⟩
          try rw [hW2]
          obtain ⟨hp2, hb2, hz2⟩ := box_parts hW2
          obtain ⟨T, hT⟩ : ∃ T, w1.heap.size = T := ⟨_, rfl⟩
          rw [hT] at hp2 ⊢
          have HPi2 := Lib.hid (HPi1.out.below hb2)
          have HP2 := Lib.hid hp2
          have HB2 := Lib.hid (HB1.out.trans (hb2.mono HB1.out.size))
          have HX2 := Lib.hid (HX1.out.below hb2)
          have hmr := mayR_any x A c B d W2 (HI.out.below HB2.out)
          have HMr := Lib.hid hmr
          obtain ⟨q0, q1, q2⟩ := HX2.out
          obtain ⟨p0, p1, p2⟩ := HP2.out
          clear hp2 hb2 hz2 hW2 hT hmr
          rw [HM.out] at HMr
          go_wp2_with fail
          refine HMr.out.mono ?_
          rintro e w3 ⟨rfl, hb3⟩
          have HB3 := Lib.hid (HB2.out.trans (hb3.mono HB2.out.size))
          have HX3 := Lib.hid (HX2.out.below hb3)
          have HP3 := Lib.hid (HP2.out.below hb3)
          have hb3x := hb3
          have hlv := lvr_any x A c B d w3 (HI.out.below HB3.out) HLk.out.lok
          have HLv := Lib.hid hlv
          clear hb3 hlv q0 q1 q2 p0 p1 p2
          obtain ⟨q0, q1, q2⟩ := HX3.out
          obtain ⟨p0, p1, p2⟩ := HP3.out
          go_wp2_with fail
          refine HLv.out.mono ?_
          rintro e w4 ⟨hb4, hcl⟩
          have HB4 := Lib.hid (HB3.out.trans (hb4.mono HB3.out.size))
          have HX4 := Lib.hid (HX3.out.below hb4)
          have HP4 := Lib.hid (HP3.out.below hb4)
          have HPi4 := Lib.hid (HPi2.out.below (hb3x.trans (hb4.mono hb3x.size)))
          clear q0 q1 q2 p0 p1 p2
          obtain ⟨q0, q1, q2⟩ := HX4.out
          obtain ⟨p0, p1, p2⟩ := HP4.out
          have hlev : IsLev x.nd.length (hs x.nd) out := by
            have h := HRs.out
            rw [HEq.out] at h
            exact h.lev
          rcases hcl with ⟨D4, o2, rfl, -, -, -, -⟩ | ⟨-, hno⟩
          case inr => exact absurd hlev (hno out)
          clear hb4 hb3x hlev
          have gn0 : ((x.nd.length : Int) == 0) = false := beq_eq_false_iff_ne.2 (by have := HN0.out; omega)
          have hmy : Calls Tryd.prog 23 #[nlV x A c B d, .agg #[.slice (some ⟨Bo, 0, none⟩) x.nd.length x.nd.length, .int .i64 N, .slice (some ⟨D, 0, none⟩) N N]] w4 fun e w' => e = .returned (.bool true) ∧ Below w4.heap.size w4 w' := by
            have h := mayP_any x A c B d p _ _ _ _ w4 (HI.out.below HB4.out) HPi4.out HLk.out
            rw [← HPv.out] at h
            exact h.mono fun e w' hh => by
              obtain ⟨b, rfl, h1, h2⟩ := hh
              rw [h1.2 HPm.out]
              exact ⟨rfl, h2⟩
          have HMyc := Lib.hid hmy
          clear hmy
          go_wp2_with fail
          refine HMyc.out.mono ?_
          rintro e w5 ⟨rfl, hb5⟩
          have HB5 := Lib.hid (HB4.out.trans (hb5.mono HB4.out.size))
          clear hb5
          go_wp2_with fail
          refine (HAw.out _).mono ?_
          rintro e w9 ⟨rfl, hb9⟩
          have HB9 := Lib.hid (HB5.out.trans (hb9.mono HB5.out.size))
          clear hb9
          go_wp2_with fail
          go_ret
          exact ⟨by try rfl, HB9.out⟩
end Go.Proofs.YtonnmkhmhndalaaDoor
end
