/- Which netlists may be, as the document has it, walked. -/
import Derived.Test.YtonnmkhmhndalaaDoorMgC
import Derived.Test.YtonnmkhmhndalaaDoorMw3
namespace Go.Proofs.YtonnmkhmhndalaaDoor
set_option linter.unusedVariables false
set_option linter.unusedSimpArgs false
open Go.RowKit Go.Proofs.YtonnmkhmhndalaaDoorW.PrintWords Go.Proofs.YtonnmkhmhndalaaDoorW.PrintLast Go.Proofs.YtonnmkhmhndalaaDoorW.PrintMore

attribute [local irreducible] wpQuiet
theorem zero_any (y : S39) (A3 : Option Addr) (c3 : Nat) (W : World) (hC : Kd.C (Kd.int .i64) W A3 y.f3.length y.f3) (hc : y.f3.length ≤ c3) :
    Calls Tryd.prog 27 #[ndV y A3 c3] W fun e w' => e = .returned (.bool (zeroB y)) ∧ Below W.heap.size W w' :=
  silkwormref09_zero.calls _ _ _ A3 c3 y.f3 _ _ _ _ _ W hC hc (zero_f y)
/-- how often nodes stand among the nets so far -/
def cntN (nt : List Int) (k : Nat) : Nat → Nat := fun j => (nt.take k).count (j : Int)
theorem cntN_succ (nt : List Int) (k a : Nat) (h : k < nt.length) (ha : nt.getD k 0 = (a : Int)) : upd (cntN nt k) a (cntN nt k a + 1) = cntN nt (k + 1) := by
  have e : nt[k] = (a : Int) := by rw [List.getD_eq_getElem?_getD, List.getElem?_eq_getElem h] at ha; exact ha
  funext j
  unfold upd cntN
  rw [List.take_succ_eq_append_getElem h, e, List.count_append]
  by_cases hj : j = a
  · subst hj
    rw [if_pos rfl]
    simp
  · rw [if_neg hj, List.count_cons]
    have : ((a : Int) == (j : Int)) = false := beq_eq_false_iff_ne.mpr (by omega)
    rw [this]
    simp
theorem cntN_le (nt : List Int) (k j : Nat) : cntN nt k j ≤ k := by
  unfold cntN
  have h1 := List.count_le_length (a := (j : Int)) (l := nt.take k)
  have h2 : (nt.take k).length ≤ k := List.length_take_le _ _
  omega

set_option maxRecDepth 100000 in
set_option maxHeartbeats 8000000 in
theorem mayR_any (x : NL) (A : Option Addr) (c : Nat) (B : Option Addr) (d : Nat) (w : World) (hI : NIn w x A c B d) :
    Calls Tryd.prog 14 #[nlV x A c B d] w fun e w' => e = .returned (.bool (mayL x)) ∧ Below w.heap.size w w' := by
  have HI := Lib.hid hI
  obtain ⟨n, hn⟩ : ∃ n, x.nd.length = n := ⟨_, rfl⟩
  obtain ⟨m, hm⟩ : ∃ m, x.nt.length = m := ⟨_, rfl⟩
  obtain ⟨ans, hans⟩ : ∃ b, mayL x = b := ⟨_, rfl⟩
  have hmb : m * 8 ≤ 140737488355328 := by rw [← hm]; exact hI.b1
  have HNo : Hid (¬ MayP x → ans = false) := Lib.hid (fun h => by rw [← hans]; exact may_no h)
  have HYes : Hid (MayP x → ans = true) := Lib.hid (fun h => by rw [← hans]; exact (may_iff x).2 h)
  rw [hans]
  have HN := Lib.hid hn
  have HM := Lib.hid hm
  clear hI hans
  go_enter Tryd.func14, Tryd.ntmps14
  go_upto_region 1 with fail
  obtain ⟨W0, hW0⟩ : ∃ W, w.alloc (Obj.cells #[.slice A n c, .slice B m d, .int .i64 x.pt] 25) = W := ⟨_, rfl⟩
  rw [hW0]
  obtain ⟨hx0, hb0, hz0⟩ := box_list hW0
  have HX0 := Lib.hid hx0
  obtain ⟨q0, q1, q2⟩ := HX0.out
  have HB0 := Lib.hid hb0
  have HZ0 := Lib.hid hz0
  have hzz : w.heap.size < W0.heap.size := by omega
  clear hx0 hb0 hz0 hW0 hn hm
  by_cases hn4 : n ≤ 4096
  · by_cases hp : x.pt = (m : Int)
    · have d1 : (x.pt != (m : Int)) = false := bne_eq_false_iff_eq.mpr hp
      have HP := Lib.hid hp
      clear hp
      go_upto_region 4 with fail
      clear q0 q1 q2 d1
      go_wp2_with fail
      go_loopw [4] (fun v4 wx => ∃ i : Nat, v4 = .int .i64 i ∧ i ≤ n ∧ Hid (∀ k, k < i → wideB x.nd.length (nAt x k) = true ∧ zeroB (nAt x k) = true) ∧ Hid (Below W0.heap.size W0 wx)) (fun v4 _ => n - (intOf v4).toNat)
      case atStart => exact ⟨0, rfl, Nat.zero_le _, Lib.hid (fun k hk => absurd hk (Nat.not_lt_zero _)), Lib.hid (Below.refl _ _)⟩
      case round =>
        obtain ⟨i, rfl, hi, HWi, HBx⟩ := hrel
        have hxx := HX0.out.belowB HBx.out hzz
        have HXx := Lib.hid hxx
        obtain ⟨q0, q1, q2⟩ := HXx.out
        have HBw := Lib.hid (HB0.out.trans (HBx.out.mono (Nat.le_of_lt hzz)))
        clear hxx
        by_cases hlt : i < n
        · have hk' : i < x.nd.length := by rw [HN.out]; exact hlt
          obtain ⟨b, o, A3, c3, hA, hl3, hbs, hND⟩ := nodes_in HI.out.h0 i hk'
          subst hA
          obtain ⟨y, hy⟩ : ∃ y, x.nd.getD i z39 = y := ⟨_, rfl⟩
          rw [hy] at hl3 hND
          have hyn : nAt x i = y := hy
          have hyb : y.f3.length * 8 ≤ 140737488355328 := by rw [← hy]; exact HI.out.b0 _ (by rw [List.getD_eq_getElem?_getD, List.getElem?_eq_getElem hk']; exact List.getElem_mem _)
          have HYb := Lib.hid hyb
          obtain ⟨h0, h1, h2, h3, h4, h5, h6, h7, hC3⟩ := hND _ HBw.out
          have HC3 := Lib.hid hC3
          have HY := Lib.hid hyn
          have HND := Lib.hid hND
          have HLt := Lib.hid hlt
          clear hk' hbs hND hy hyn hC3 hyb
          go_upto_region 8 with fail
          obtain ⟨W5, hW5⟩ : ∃ W, wr.alloc (Obj.cells #[Value.int IntKind.i64 y.f0, Value.int IntKind.i64 y.f1, Value.int IntKind.i64 y.f2, Value.slice A3 y.f3.length c3, Value.string y.f4, Value.int IntKind.i64 y.f5, Value.int IntKind.i64 y.f6, Value.int IntKind.i64 y.f7] 39) = W := ⟨_, rfl⟩
          rw [hW5]
          obtain ⟨hn5, hb5⟩ := box_node HC3.out hW5
          have HN5 := Lib.hid hn5
          obtain ⟨z0, z1, z2, z3, z4, z5, z6, z7, hC5⟩ := HN5.out
          have HB5 := Lib.hid (HBx.out.trans (hb5.mono HBx.out.size))
          have hzr := zero_any y A3 c3 W5 hC5 hl3
          have HZr := Lib.hid hzr
          clear hn5 hW5 hb5 h0 h1 h2 h3 h4 h5 h6 h7 hC5 hzr q0 q1 q2
          by_cases a1 : 1 ≤ y.f2
          · have g1 : decide (y.f2 < 1) = false := decide_eq_false (by omega)
            by_cases a2 : y.f2 ≤ 256
            · have g2 : decide (y.f2 > 256) = false := decide_eq_false (by omega)
              obtain ⟨zb, hzb⟩ : ∃ b, zeroB y = b := ⟨_, rfl⟩
              rw [hzb] at HZr
              have HZb := Lib.hid hzb
              clear hzb
              cases zb
              · go_wp2_with fail
                refine HZr.out.mono ?_
                rintro e w6 ⟨rfl, hb6⟩
                have HB6 := Lib.hid (HB5.out.trans (hb6.mono HB5.out.size))
                clear hb6
                go_wp2_with fail
                go_ret
                refine ⟨?_, HB0.out.trans (HB6.out.mono (Nat.le_of_lt hzz))⟩
                rw [HNo.out (fun h => ?_)]
                · rfl
                · have := h.z i (by rw [HN.out]; exact HLt.out)
                  rw [HY.out, HZb.out] at this
                  cases this
              · go_wp2_with fail
                refine HZr.out.mono ?_
                rintro e w6 ⟨rfl, hb6⟩
                have HB6 := Lib.hid (HB5.out.trans (hb6.mono HB5.out.size))
                have HN6 := Lib.hid (HN5.out.below hb6)
                clear hb6 z0 z1 z2 z3 z4 z5 z6 z7
                obtain ⟨p, hp⟩ : ∃ p, y.f3.length = p := ⟨_, rfl⟩
                have HP3 := Lib.hid hp
                have hpb : p * 8 ≤ 140737488355328 := by rw [← hp]; exact HYb.out
                clear hp
                go_wp2_with fail
                go_loopw [6] (fun v6 wy => ∃ j : Nat, v6 = .int .i64 j ∧ j ≤ p ∧ Hid (∀ k, k < j → 0 ≤ y.f3.getD k 0 ∧ y.f3.getD k 0 < (n : Int)) ∧ Hid (Below w6.heap.size w6 wy)) (fun v6 _ => p - (intOf v6).toNat)
                case atStart => exact ⟨0, rfl, Nat.zero_le _, Lib.hid (fun k hk => absurd hk (Nat.not_lt_zero _)), Lib.hid (Below.refl _ _)⟩
                case round =>
                  obtain ⟨j, rfl, hj, HJ, HBy⟩ := hrel
                  have hNy := HN6.out.below HBy.out
                  have z3 := hNy.k3
                  rw [HP3.out] at z3
                  have HCy := Lib.hid hNy.hC
                  clear hNy
                  by_cases hjl : j < p
                  · obtain ⟨b6, o6, hA6, g6, -⟩ := ints_at HCy.out j (by rw [HP3.out]; exact hjl)
                    subst hA6
                    obtain ⟨a, ha⟩ : ∃ a, y.f3.getD j 0 = a := ⟨_, rfl⟩
                    rw [ha] at g6
                    have HA := Lib.hid ha
                    have HJl := Lib.hid hjl
                    clear ha
                    have hbad : ¬ (0 ≤ a ∧ a < (n : Int)) → ans = false := fun hb => HNo.out (fun h => by
                      have h1 := h.w i (by rw [HN.out]; exact HLt.out)
                      rw [HY.out] at h1
                      have h2 := ((wideB_iff _ _).1 h1).2.2 j (by rw [HP3.out]; exact HJl.out)
                      rw [HA.out, HN.out] at h2
                      exact hb h2)
                    have HBad := Lib.hid hbad
                    clear hbad
                    by_cases b1 : 0 ≤ a
                    · have g1 : decide (a < 0) = false := decide_eq_false (by omega)
                      by_cases b2 : a < (n : Int)
                      · have g2 : decide (a ≥ (n : Int)) = false := decide_eq_false (by omega)
                        go_wp2_with fail
                        refine ⟨⟨j + 1, by simp, HJl.out, Lib.hid (fun k hk => ?_), HBy⟩, by have := HJl.out; simp [intOf]; omega⟩
                        by_cases e : k = j
                        · subst e; rw [HA.out]; exact ⟨b1, b2⟩
                        · exact HJ.out k (by omega)
                      · have g2 : decide (a ≥ (n : Int)) = true := decide_eq_true (by omega)
                        have B2 := Lib.hid b2
                        go_wp2_with fail
                        go_ret
                        exact ⟨by rw [HBad.out (fun h => by have := B2.out; omega)]; try rfl, HB0.out.trans ((HB6.out.trans (HBy.out.mono HB6.out.size)).mono (Nat.le_of_lt hzz))⟩
                    · have g1 : decide (a < 0) = true := decide_eq_true (by omega)
                      have B1 := Lib.hid b1
                      go_wp2_with fail
                      go_ret
                      exact ⟨by rw [HBad.out (fun h => by have := B1.out; omega)]; try rfl, HB0.out.trans ((HB6.out.trans (HBy.out.mono HB6.out.size)).mono (Nat.le_of_lt hzz))⟩
                  · obtain rfl : j = p := by omega
                    have A1 := Lib.hid a1
                    have A2 := Lib.hid a2
                    go_wp2_with fail
                    refine ⟨⟨i + 1, by simp, HLt.out, Lib.hid (fun k hk => ?_), Lib.hid (HB6.out.trans (HBy.out.mono HB6.out.size))⟩, by have := HLt.out; simp [intOf]; omega⟩
                    by_cases e : k = i
                    · subst e
                      rw [HY.out]
                      exact ⟨(wideB_iff _ _).2 ⟨A1.out, A2.out, fun q hq => by rw [HP3.out] at hq; rw [HN.out]; exact HJ.out q hq⟩, HZb.out⟩
                    · exact HWi.out k (by omega)
            · have g2 : decide (y.f2 > 256) = true := decide_eq_true (by omega)
              have A2 := Lib.hid a2
              go_wp2_with fail
              go_ret
              refine ⟨?_, HB0.out.trans (HB5.out.mono (Nat.le_of_lt hzz))⟩
              rw [HNo.out (fun h => ?_)]
              · rfl
              · have h1 := h.w i (by rw [HN.out]; exact HLt.out)
                rw [HY.out] at h1
                have := ((wideB_iff _ _).1 h1).2.1
                have := A2.out
                omega
          · have g1 : decide (y.f2 < 1) = true := decide_eq_true (by omega)
            have A1 := Lib.hid a1
            go_wp2_with fail
            go_ret
            refine ⟨?_, HB0.out.trans (HB5.out.mono (Nat.le_of_lt hzz))⟩
            rw [HNo.out (fun h => ?_)]
            · rfl
            · have h1 := h.w i (by rw [HN.out]; exact HLt.out)
              rw [HY.out] at h1
              have := ((wideB_iff _ _).1 h1).1
              have := A1.out
              omega
        · obtain rfl : i = n := by omega
          rename World => WA
          obtain ⟨W1, m1, hb1, hz1, ho1⟩ := make23 i (by omega) WA
          have HB1 := Lib.hid hb1
          have HO1 := Lib.hid ho1
          have HZ1 := Lib.hid hz1
          clear hb1 ho1 hz1 hlt hi
          go_upto_region 16 with fail
          clear m1 q0 q1 q2
          go_wp2_with fail
          go_loopw [8] (fun v8 wy => ∃ k : Nat, v8 = .int .i64 k ∧ k ≤ m ∧ Hid (∀ q, q < k → 0 ≤ x.nt.getD q 0 ∧ x.nt.getD q 0 < (i : Int)) ∧ Hid (Cl eI wy WA.heap.size i (cntN x.nt k)) ∧ Hid (Below WA.heap.size WA wy)) (fun v8 _ => m - (intOf v8).toNat)
          case atStart => exact ⟨0, rfl, Nat.zero_le _, Lib.hid (fun k hk => absurd hk (Nat.not_lt_zero _)), Lib.hid (HO1.out.size (fun j _ => by unfold cntN; rw [List.take_zero]; rfl)), HB1⟩
          case round =>
            obtain ⟨k, rfl, hk, HK, HO, HBy⟩ := hrel
            have HXy := Lib.hid (HXx.out.below HBy.out)
            have HBz := Lib.hid (HBw.out.trans (HBy.out.mono HBw.out.size))
            obtain ⟨q0, q1, q2⟩ := HXy.out
            by_cases hkl : k < m
            · obtain ⟨bb, oo, hBB, g6, -⟩ := ints_at (HI.out.below HBz.out).h1 k (by rw [HM.out]; exact hkl)
              subst hBB
              obtain ⟨a, ha⟩ : ∃ a, x.nt.getD k 0 = a := ⟨_, rfl⟩
              rw [ha] at g6
              have HA := Lib.hid ha
              have HKl := Lib.hid hkl
              clear ha
              have hbad : ¬ (0 ≤ a ∧ a < (i : Int)) → ans = false := fun hb => HNo.out (fun h => by
                have h1 := h.t k (by rw [HM.out]; exact HKl.out)
                unfold inB at h1
                rw [HA.out, HN.out, Bool.and_eq_true, decide_eq_true_eq, decide_eq_true_eq] at h1
                exact hb h1)
              have HBad := Lib.hid hbad
              clear hbad
              by_cases b1 : 0 ≤ a
              · have g1 : decide (a < 0) = false := decide_eq_false (by omega)
                by_cases b2 : a < (i : Int)
                · have g2 : decide (a ≥ (i : Int)) = false := decide_eq_false (by omega)
                  obtain ⟨a', rfl⟩ : ∃ a' : Nat, a = (a' : Int) := ⟨a.toNat, by omega⟩
                  have hai : a' < i := by omega
                  have c1 := HO.out.c a' hai
                  have c2 := HO.out.f a' hai
                  have hcs := cntN_succ x.nt k a' (by rw [HM.out]; exact hkl) HA.out
                  have hcl := cntN_le x.nt k a'
                  generalize cntN x.nt k a' = cv at *
                  have HCs := Lib.hid hcs
                  have HB2 := Lib.hid b2
                  clear hcs
                  go_wp2_with fail
                  refine ⟨⟨k + 1, by simp, HKl.out, Lib.hid (fun q hq => ?_), by rw [← HCs.out]; exact Lib.hid (HO.out.set a' (cv + 1)), Lib.hid (below_set2 (Nat.le_refl _) HBy.out)⟩, by have := HKl.out; simp [intOf]; omega⟩
                  by_cases e : q = k
                  · subst e; rw [HA.out]; exact ⟨by omega, HB2.out⟩
                  · exact HK.out q (by omega)
                · have g2 : decide (a ≥ (i : Int)) = true := decide_eq_true (by omega)
                  have B2 := Lib.hid b2
                  go_wp2_with fail
                  go_ret
                  exact ⟨by rw [HBad.out (fun h => by have := B2.out; omega)]; try rfl, HBz.out⟩
              · have g1 : decide (a < 0) = true := decide_eq_true (by omega)
                have B1 := Lib.hid b1
                go_wp2_with fail
                go_ret
                exact ⟨by rw [HBad.out (fun h => by have := B1.out; omega)]; try rfl, HBz.out⟩
            · obtain rfl : k = m := by omega
              rename World => WB
              clear hkl hk
              go_wp2_with fail
              clear q0 q1 q2
              go_loopw [9] (fun v9 wz => ∃ j : Nat, v9 = .int .i64 j ∧ j ≤ i ∧ Hid (∀ q, q < j → nodeB (wsOf x.nd (nAt x q)) (nAt x q) = true ∧ portB x.nt q (nAt x q) = true) ∧ Hid (Below WB.heap.size WB wz)) (fun v9 _ => i - (intOf v9).toNat)
              case atStart => exact ⟨0, rfl, Nat.zero_le _, Lib.hid (fun k hk => absurd hk (Nat.not_lt_zero _)), Lib.hid (Below.refl _ _)⟩
              case round =>
                obtain ⟨j, rfl, hj, HJ, HBq⟩ := hrel
                have HBr := Lib.hid (HBz.out.trans (HBq.out.mono HBz.out.size))
                by_cases hjl : j < i
                · have hk' : j < x.nd.length := by rw [HN.out]; exact hjl
                  obtain ⟨b, o, A3, c3, hA, hl3, hbs, hND⟩ := nodes_in HI.out.h0 j hk'
                  subst hA
                  obtain ⟨y, hy⟩ : ∃ y, x.nd.getD j z39 = y := ⟨_, rfl⟩
                  rw [hy] at hl3 hND
                  have hyn : nAt x j = y := hy
                  have hym : y ∈ x.nd := by rw [← hy, List.getD_eq_getElem?_getD, List.getElem?_eq_getElem hk']; exact List.getElem_mem _
                  have hwj := HWi.out j hjl
                  rw [hyn] at hwj
                  have hwd := (wideB_iff _ _).1 hwj.1
                  have hYO : YOk x y := by
                    refine ⟨by rw [HN.out]; exact hn4, fun s hs => ?_, fun u hu => ?_, HI.out.z y hym, HI.out.b0 y hym⟩
                    · obtain ⟨q, hq, rfl⟩ := List.getElem_of_mem hs
                      have h1 := (HWi.out q (by rw [← HN.out]; exact hq)).1
                      have h2 : nAt x q = x.nd[q] := by unfold nAt; rw [List.getD_eq_getElem?_getD, List.getElem?_eq_getElem hq]; rfl
                      rw [h2] at h1
                      have h3 := (wideB_iff _ _).1 h1
                      exact ⟨h3.1, h3.2.1⟩
                    · obtain ⟨q, hq, rfl⟩ := List.getElem_of_mem hu
                      have h3 := hwd.2.2 q hq
                      rw [List.getD_eq_getElem?_getD, List.getElem?_eq_getElem hq] at h3
                      exact h3
                  have hNa := hND _ HBr.out
                  obtain ⟨h0, h1, h2, h3, h4, h5, h6, h7, hC3⟩ := hNa
                  obtain ⟨i0, i1, i2⟩ := HXy.out.below HBq.out
                  have hcc := (HO.out.below2 HBq.out).c j hjl
                  have hcn : cntN x.nt k j = x.nt.count (j : Int) := by unfold cntN; rw [← HM.out, List.take_length]
                  rw [hcn] at hcc
                  have hnd : ∀ p : BelowBy wr, Calls Tryd.prog 28 #[.agg #[.slice (some ⟨b, o, none⟩) i c, .slice B k d, .int .i64 x.pt], ndV y A3 c3] p.W fun e w' => e = .returned (.bool (nodeB (wsOf x.nd y) y)) ∧ Below p.W.heap.size p.W w' := by
                    intro p
                    have h9 := node_any x _ c B d y A3 c3 p.W (HI.out.below (HBr.out.trans (p.h.mono HBr.out.size))) (Kd.C_below hC3 p.h) hl3 hYO hwd.1 hwd.2.1
                    unfold nlV at h9
                    rw [HN.out, HM.out] at h9
                    exact h9
                  obtain ⟨nb, hnb⟩ : ∃ nb, nodeB (wsOf x.nd y) y = nb := ⟨_, rfl⟩
                  rw [hnb] at hnd
                  have HNd := Lib.hid hnd
                  have HNb := Lib.hid hnb
                  have HYn := Lib.hid hyn
                  have HJl := Lib.hid hjl
                  have n0 : ∀ p : BelowBy wr, p.W.cell? ⟨w.heap.size, 0, none⟩ = some (.slice (some ⟨b, o, none⟩) i c) := fun p => p.cell i0
                  have n1 : ∀ p : BelowBy wr, p.W.cell? ⟨w.heap.size, 1, none⟩ = some (.slice B k d) := fun p => p.cell i1
                  have n2 : ∀ p : BelowBy wr, p.W.cell? ⟨w.heap.size, 2, none⟩ = some (.int .i64 x.pt) := fun p => p.cell i2
                  have p0 : ∀ p : BelowBy wr, p.W.cell? ⟨b, o + j * 8, none⟩ = some (.int .i64 y.f0) := fun p => p.cell h0
                  have p1 : ∀ p : BelowBy wr, p.W.cell? ⟨b, o + j * 8 + 1, none⟩ = some (.int .i64 y.f1) := fun p => p.cell h1
                  have p2 : ∀ p : BelowBy wr, p.W.cell? ⟨b, o + j * 8 + 2, none⟩ = some (.int .i64 y.f2) := fun p => p.cell h2
                  have p3 : ∀ p : BelowBy wr, p.W.cell? ⟨b, o + j * 8 + 3, none⟩ = some (.slice A3 y.f3.length c3) := fun p => p.cell h3
                  have p4 : ∀ p : BelowBy wr, p.W.cell? ⟨b, o + j * 8 + 4, none⟩ = some (.string y.f4) := fun p => p.cell h4
                  have p5 : ∀ p : BelowBy wr, p.W.cell? ⟨b, o + j * 8 + 5, none⟩ = some (.int .i64 y.f5) := fun p => p.cell h5
                  have p6 : ∀ p : BelowBy wr, p.W.cell? ⟨b, o + j * 8 + 6, none⟩ = some (.int .i64 y.f6) := fun p => p.cell h6
                  have p7 : ∀ p : BelowBy wr, p.W.cell? ⟨b, o + j * 8 + 7, none⟩ = some (.int .i64 y.f7) := fun p => p.cell h7
                  have t0 : ∀ p : BelowBy wr, p.W.cell? ⟨WA.heap.size, j, none⟩ = some (.int .i64 (x.nt.count (j : Int) : Int)) := fun p => p.cell hcc
                  have hpo : portB x.nt j y = (!decide (y.f0 = 2) || decide (x.nt.count (j : Int) = 1)) := rfl
                  have HPo := Lib.hid hpo
                  have hjI : (j : Int) < (i : Int) := by omega
                  clear hnd hnb hyn hk' hbs hND hy hym hwj hwd hYO h0 h1 h2 h3 h4 h5 h6 h7 hC3 i0 i1 i2 hcc hcn hpo hl3
                  have hbadn : nb = false → ans = false := fun hb => HNo.out (fun h => by
                    have h1 := h.k j (by rw [HN.out]; exact HJl.out)
                    rw [HYn.out, HNb.out, hb] at h1
                    cases h1)
                  have hbadp : portB x.nt j y = false → ans = false := fun hb => HNo.out (fun h => by
                    have h1 := h.q j (by rw [HN.out]; exact HJl.out)
                    rw [HYn.out, hb] at h1
                    cases h1)
                  have HBn := Lib.hid hbadn
                  have HBp := Lib.hid hbadp
                  clear hbadn hbadp
                  cases nb
                  · skip
                    go_upto_region 25 with fail
                    refine region_below (by kernel_rfl) (by kernel_rfl) ?_
                    repeat (quiet_step (with_reducible first | exact call_below _ (HNd.out _) | fail))
                    refine wpQuiet_nil ?_
                    rintro _ ⟨p, rfl⟩
                    go_wp2_with fail
                    go_ret
                    exact ⟨by rw [HBn.out (by first | trivial | rfl)]; try rfl, HBr.out.trans (p.h.mono HBr.out.size)⟩
                  · by_cases f2 : y.f0 = 2
                    · have d2 : (y.f0 == 2) = true := beq_iff_eq.mpr f2
                      have F2 := Lib.hid f2
                      clear f2
                      by_cases cc : x.nt.count (j : Int) = 1
                      · have hpt : portB x.nt j y = true := by rw [HPo.out, decide_eq_true cc]; simp
                        have HPt := Lib.hid hpt
                        have d3 : ((x.nt.count (j : Int) : Int) != 1) = false := bne_eq_false_iff_eq.mpr (by omega)
                        generalize x.nt.count (j : Int) = cn at *
                        clear hpt cc
                        go_upto_region 25 with fail
                        refine region_below (by kernel_rfl) (by kernel_rfl) ?_
                        repeat (quiet_step (with_reducible first | exact call_below _ (HNd.out _) | fail))
                        refine wpQuiet_nil ?_
                        rintro _ ⟨p, rfl⟩
                        go_wp2_with fail
                        refine ⟨⟨j + 1, by simp, HJl.out, Lib.hid (fun q hq => ?_), Lib.hid (HBq.out.trans (p.h.mono HBq.out.size))⟩, by have := HJl.out; simp [intOf]; omega⟩
                        by_cases e : q = j
                        · subst e; rw [HYn.out]; exact ⟨HNb.out, by exact HPt.out⟩
                        · exact HJ.out q (by omega)
                      · have hpt : portB x.nt j y = false := by rw [HPo.out, decide_eq_false cc, decide_eq_true F2.out]; rfl
                        have HPt := Lib.hid hpt
                        have d3 : ((x.nt.count (j : Int) : Int) != 1) = true := bne_iff_ne.mpr (by omega)
                        generalize x.nt.count (j : Int) = cn at *
                        clear hpt cc
                        go_upto_region 25 with fail
                        refine region_below (by kernel_rfl) (by kernel_rfl) ?_
                        repeat (quiet_step (with_reducible first | exact call_below _ (HNd.out _) | fail))
                        refine wpQuiet_nil ?_
                        rintro _ ⟨p, rfl⟩
                        go_wp2_with fail
                        go_ret
                        exact ⟨by rw [HBp.out HPt.out]; try rfl, HBr.out.trans (p.h.mono HBr.out.size)⟩
                    · have d2 : (y.f0 == 2) = false := beq_eq_false_iff_ne.mpr f2
                      have hpt : portB x.nt j y = true := by rw [HPo.out, decide_eq_false f2]; rfl
                      have HPt := Lib.hid hpt
                      clear hpt f2
                      go_upto_region 25 with fail
                      refine region_below (by kernel_rfl) (by kernel_rfl) ?_
                      repeat (quiet_step (with_reducible first | exact call_below _ (HNd.out _) | fail))
                      refine wpQuiet_nil ?_
                      rintro _ ⟨p, rfl⟩
                      go_wp2_with fail
                      refine ⟨⟨j + 1, by simp, HJl.out, Lib.hid (fun q hq => ?_), Lib.hid (HBq.out.trans (p.h.mono HBq.out.size))⟩, by have := HJl.out; simp [intOf]; omega⟩
                      by_cases e : q = j
                      · subst e; rw [HYn.out]; exact ⟨HNb.out, by exact HPt.out⟩
                      · exact HJ.out q (by omega)
                · obtain rfl : j = i := by omega
                  have hyes : ans = true := HYes.out ⟨by rw [HN.out]; exact hn4, by rw [HP.out, HM.out], fun q hq => (HWi.out q (by rw [← HN.out]; exact hq)).1, fun q hq => by unfold inB; have := HK.out q (by rw [← HM.out]; exact hq); rw [HN.out, decide_eq_true this.1, decide_eq_true this.2]; rfl, fun q hq => (HJ.out q (by rw [← HN.out]; exact hq)).1, fun q hq => (HWi.out q (by rw [← HN.out]; exact hq)).2, fun q hq => (HJ.out q (by rw [← HN.out]; exact hq)).2⟩
                  have HYe := Lib.hid hyes
                  clear hyes
                  go_wp2_with fail
                  go_ret
                  exact ⟨by rw [HYe.out]; try rfl, HBr.out⟩
    · have d1 : (x.pt != (m : Int)) = true := bne_iff_ne.mpr hp
      have HP := Lib.hid hp
      clear hp
      go_wp2_with fail
      go_ret
      exact ⟨by rw [HNo.out (fun h => HP.out (by rw [h.p, HM.out]))]; try rfl, HB0.out⟩
  · have HQ := Lib.hid hn4
    go_wp2_with fail
    go_ret
    exact ⟨by rw [HNo.out (fun h => HQ.out (by rw [← HN.out]; exact h.n))]; try rfl, HB0.out⟩
end Go.Proofs.YtonnmkhmhndalaaDoor
