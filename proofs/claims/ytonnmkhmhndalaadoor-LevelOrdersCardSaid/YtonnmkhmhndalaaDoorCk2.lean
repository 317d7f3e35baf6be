/- Which netlists may be, as the program has it, walked. -/
import Derived.Test.YtonnmkhmhndalaaDoorMgD
import Derived.Test.YtonnmkhmhndalaaDoorMw1
namespace Go.Proofs.YtonnmkhmhndalaaDoor
set_option linter.unusedVariables false
set_option linter.unusedSimpArgs false
open Go.RowKit Go.Proofs.YtonnmkhmhndalaaDoorW.PrintWords Go.Proofs.YtonnmkhmhndalaaDoorW.PrintLast Go.Proofs.YtonnmkhmhndalaaDoorW.PrintMore

/-- how often nodes stand among the nets so far -/
def cntP (nt : List Int) (k : Nat) : Nat → Nat := fun j => (nt.take k).count (j : Int)
theorem cntP_succ (nt : List Int) (k a : Nat) (h : k < nt.length) (ha : nt.getD k 0 = (a : Int)) (j : Nat) : cntP nt (k + 1) j = if j = a then cntP nt k a + 1 else cntP nt k j := by
  have e : nt[k] = (a : Int) := by rw [List.getD_eq_getElem?_getD, List.getElem?_eq_getElem h] at ha; exact ha
  unfold cntP
  rw [List.take_succ_eq_append_getElem h, e, List.count_append]
  by_cases hj : j = a
  · subst hj
    rw [if_pos rfl]
    simp
  · rw [if_neg hj, List.count_cons]
    have : ((a : Int) == (j : Int)) = false := beq_eq_false_iff_ne.mpr (by omega)
    rw [this]
    simp
theorem cntP_le (nt : List Int) (k j : Nat) : cntP nt k j ≤ k := by
  unfold cntP
  have h1 := List.count_le_length (a := (j : Int)) (l := nt.take k)
  have h2 : (nt.take k).length ≤ k := List.length_take_le _ _
  omega
def pfN (nt : List Int) (k : Nat) : Nat → Option Int := fun j => if cntP nt k j = 0 then none else some (cntP nt k j : Int)
theorem pfN_get (nt : List Int) (k j : Nat) : (pfN nt k j).getD 0 = (cntP nt k j : Int) := by
  unfold pfN
  by_cases h : cntP nt k j = 0
  · rw [if_pos h, h]; rfl
  · rw [if_neg h]; rfl
theorem pfN_succ (nt : List Int) (k a : Nat) (h : k < nt.length) (ha : nt.getD k 0 = (a : Int)) : upd (pfN nt k) a (some ((cntP nt k a : Int) + 1)) = pfN nt (k + 1) := by
  funext j
  unfold upd pfN
  rw [cntP_succ nt k a h ha j]
  by_cases e : j = a
  · subst e
    rw [if_pos rfl, if_pos rfl, if_neg (by omega)]
    rfl
  · rw [if_neg e, if_neg e]

attribute [local irreducible] wpQuiet
/-- no fault, or one -/
def chkI (x : NL) : Int := if mayL x then 0 else 1
theorem store_func (a : Addr) (fn : Fn) (first cap : Array Value) (w : World) (m : Mode) : (store a (.func fn first cap) m).run Tryd.prog w = stored Tryd.prog w a (.func fn first cap) m := run_store Tryd.prog w a _ m rfl
set_option maxRecDepth 100000 in
set_option maxHeartbeats 8000000 in
theorem check_any (x : NL) (A : Option Addr) (c : Nat) (B : Option Addr) (d : Nat) (w : World) (hI : NIn w x A c B d) :
    Calls Tryd.prog 25 #[nlV x A c B d] w fun e w' => e = .returned (.int .i64 (chkI x)) ∧ Below w.heap.size w w' := by
  have hmf : ∀ (fn : Fn) (first cap : Array Value) (w : World), (Instr.makeFunc fn first cap).run Tryd.prog w = .ok (.func fn first cap) w := fun _ _ _ _ => rfl
  have hmm := @run_makeMap Tryd.prog
  have hsf := store_func
  have HI := Lib.hid hI
  obtain ⟨n, hn⟩ : ∃ n, x.nd.length = n := ⟨_, rfl⟩
  obtain ⟨m, hm⟩ : ∃ m, x.nt.length = m := ⟨_, rfl⟩
  obtain ⟨ans, hans⟩ : ∃ b, chkI x = b := ⟨_, rfl⟩
  have hmb : m * 8 ≤ 140737488355328 := by rw [← hm]; exact hI.b1
  have HNo : Hid (¬ MayP x → ans = 1) := Lib.hid (fun h => by rw [← hans]; unfold chkI; rw [may_no h]; rfl)
  have HYes : Hid (MayP x → ans = 0) := Lib.hid (fun h => by rw [← hans]; unfold chkI; rw [(may_iff x).2 h]; rfl)
  rw [hans]
  have HN := Lib.hid hn
  have HM := Lib.hid hm
  clear hI hans
  go_enter Tryd.func25, Tryd.ntmps25
  go_upto_region 1 with fail
  obtain ⟨W0, hW0⟩ : ∃ W, w.alloc (Obj.cells #[.slice A n c, .slice B m d, .int .i64 x.pt] 25) = W := ⟨_, rfl⟩
  rw [hW0]
  obtain ⟨hx0, hb0, hz0⟩ := box_list hW0
  have HX0 := Lib.hid hx0
  obtain ⟨q0, q1, q2⟩ := HX0.out
  have HB0 := Lib.hid hb0
  have HZ0 := Lib.hid hz0
  have hzz : w.heap.size < W0.heap.size := by omega
  clear hx0 hb0 hz0 hW0 hn hm
  by_cases hn4 : n ≤ 4096
  · by_cases hp : x.pt = (m : Int)
    · have d1 : (x.pt != (m : Int)) = false := bne_eq_false_iff_eq.mpr hp
      have HP := Lib.hid hp
      clear hp
      go_upto_region 4 with fail
      obtain ⟨W1, hW1⟩ : ∃ W, W0.alloc (.cells #[fIn w.heap.size] 84) = W := ⟨_, rfl⟩
      rw [hW1]
      have hb1 : Below W0.heap.size W0 W1 := by rw [← hW1]; exact below_alloc (Below.refl _ _) _
      have hq1 : W1.cell? ⟨W0.heap.size, 0, none⟩ = some (fIn w.heap.size) := by rw [← hW1]; simp [go_sem]
      have hz1 : W0.heap.size < W1.heap.size := by rw [← hW1]; simp
      have HX1 := Lib.hid (HX0.out.below hb1)
      have HB1 := Lib.hid (HB0.out.trans (hb1.mono (Nat.le_of_lt hzz)))
      have HQ1 := Lib.hid hq1
      obtain ⟨q0, q1, q2⟩ := HX1.out
      have hz2 : w.heap.size < W1.heap.size := by omega
      clear hb1 hq1 hW1
      go_wp2_with fail
      clear q0 q1 q2 d1
      go_loopw [27] (fun v27 wx => ∃ i : Nat, v27 = .int .i64 i ∧ i ≤ n ∧ Hid (∀ k, k < i → wideB x.nd.length (nAt x k) = true) ∧ Hid (Below W1.heap.size W1 wx)) (fun v27 _ => n - (intOf v27).toNat)
      case atStart => exact ⟨0, rfl, Nat.zero_le _, Lib.hid (fun k hk => absurd hk (Nat.not_lt_zero _)), Lib.hid (Below.refl _ _)⟩
      case round =>
        obtain ⟨i, rfl, hi, HWi, HBx⟩ := hrel
        have HXx := Lib.hid (HX1.out.below HBx.out)
        have HBw := Lib.hid (HB1.out.trans (HBx.out.mono (Nat.le_of_lt hz2)))
        have HQx := Lib.hid ((HBx.out.cell (p := ⟨W0.heap.size, 0, none⟩) hz1).trans HQ1.out)
        by_cases hlt : i < n
        · have hk' : i < x.nd.length := by rw [HN.out]; exact hlt
          obtain ⟨b, o, A3, c3, hA, hl3, hbs, hND⟩ := nodes_in HI.out.h0 i hk'
          subst hA
          obtain ⟨y, hy⟩ : ∃ y, x.nd.getD i z39 = y := ⟨_, rfl⟩
          rw [hy] at hl3 hND
          have hyn : nAt x i = y := hy
          have hyb : y.f3.length * 8 ≤ 140737488355328 := by rw [← hy]; exact HI.out.b0 _ (by rw [List.getD_eq_getElem?_getD, List.getElem?_eq_getElem hk']; exact List.getElem_mem _)
          have HYb := Lib.hid hyb
          obtain ⟨h0, h1, h2, h3, h4, h5, h6, h7, hC3⟩ := hND _ HBw.out
          have HC3 := Lib.hid hC3
          have HY := Lib.hid hyn
          have HND := Lib.hid hND
          have HLt := Lib.hid hlt
          clear hk' hbs hND hy hyn hC3 hyb
          go_upto_region 7 with fail
          obtain ⟨W5, hW5⟩ : ∃ W, wr.alloc (Obj.cells #[Value.int IntKind.i64 y.f0, Value.int IntKind.i64 y.f1, Value.int IntKind.i64 y.f2, Value.slice A3 y.f3.length c3, Value.string y.f4, Value.int IntKind.i64 y.f5, Value.int IntKind.i64 y.f6, Value.int IntKind.i64 y.f7] 39) = W := ⟨_, rfl⟩
          rw [hW5]
          obtain ⟨hn5, hb5⟩ := box_node HC3.out hW5
          have HN5 := Lib.hid hn5
          obtain ⟨z0, z1, z2, z3, z4, z5, z6, z7, hC5⟩ := HN5.out
          have HB5 := Lib.hid (HBx.out.trans (hb5.mono HBx.out.size))
          have hq5 := (hb5.cell (p := ⟨W0.heap.size, 0, none⟩) (World.block_lt_of_cell? wr _ HQx.out)).trans HQx.out
          have hcf := cf_any y.f3 A3 c3 w.heap.size W0.heap.size n c _ W5 hC5 HYb.out (HXx.out.below hb5).k0 hq5
          have HCf := Lib.hid hcf
          have HBe := Lib.hid (HBw.out.trans (hb5.mono HBw.out.size))
          clear hn5 hW5 hb5 h0 h1 h2 h3 h4 h5 h6 h7 hC5 hq5 hcf z0 z1 z4 z5 z6 z7
          by_cases a1 : 1 ≤ y.f2
          · have g1 : decide (y.f2 < 1) = false := decide_eq_false (by omega)
            by_cases a2 : y.f2 ≤ 256
            · have g2 : decide (y.f2 > 256) = false := decide_eq_false (by omega)
              obtain ⟨zb, hzb⟩ : ∃ b, y.f3.all (inB n) = b := ⟨_, rfl⟩
              rw [hzb] at HCf
              have HZb := Lib.hid hzb
              have A1 := Lib.hid a1
              have A2 := Lib.hid a2
              clear hzb
              cases zb
              · go_wp2_with fail
                refine HCf.out.mono ?_
                rintro e w6 ⟨rfl, rfl⟩
                go_wp2_with fail
                go_ret
                refine ⟨?_, HBe.out⟩
                rw [HNo.out (fun h => ?_)]
                · rfl
                · have := h.w i (by rw [HN.out]; exact HLt.out)
                  rw [HY.out, HN.out] at this
                  unfold wideB at this
                  rw [HZb.out] at this
                  simp at this
              · go_wp2_with fail
                refine HCf.out.mono ?_
                rintro e w6 ⟨rfl, rfl⟩
                go_wp2_with fail
                refine ⟨⟨i + 1, by simp, HLt.out, Lib.hid (fun k hk => ?_), HB5⟩, by have := HLt.out; simp [intOf]; omega⟩
                by_cases e : k = i
                · subst e
                  rw [HY.out, HN.out]
                  unfold wideB
                  rw [HZb.out, decide_eq_true A1.out, decide_eq_true A2.out]
                  rfl
                · exact HWi.out k (by omega)
            · have g2 : decide (y.f2 > 256) = true := decide_eq_true (by omega)
              have A2 := Lib.hid a2
              go_wp2_with fail
              go_ret
              refine ⟨?_, HBe.out⟩
              rw [HNo.out (fun h => ?_)]
              · rfl
              · have h1 := h.w i (by rw [HN.out]; exact HLt.out)
                rw [HY.out] at h1
                have := ((wideB_iff _ _).1 h1).2.1
                have := A2.out
                omega
          · have g1 : decide (y.f2 < 1) = true := decide_eq_true (by omega)
            have A1 := Lib.hid a1
            go_wp2_with fail
            go_ret
            refine ⟨?_, HBe.out⟩
            rw [HNo.out (fun h => ?_)]
            · rfl
            · have h1 := h.w i (by rw [HN.out]; exact HLt.out)
              rw [HY.out] at h1
              have := ((wideB_iff _ _).1 h1).1
              have := A1.out
              omega
        · obtain rfl : i = n := by omega
          rename World => WA
          obtain ⟨q0, q1, q2⟩ := HXx.out
          clear hlt hi
          go_upto_region 11 with fail
          obtain ⟨WM, hWM⟩ : ∃ W, WA.alloc (.map #[] 0) = W := ⟨_, rfl⟩
          rw [hWM]
          have hbm : Below WA.heap.size WA WM := by rw [← hWM]; exact below_alloc (Below.refl _ _) _
          have hmi : MI WM WA.heap.size 0 (pfN x.nt 0) := by
            have e : pfN x.nt 0 = fun _ => none := by funext j; unfold pfN cntP; rw [List.take_zero]; rfl
            rw [e, ← hWM]
            exact MI.made WA
          have HBm := Lib.hid hbm
          have HMi := Lib.hid hmi
          have hx1 := (HXx.out.below hbm).k1
          clear hWM hbm hmi q0 q1 q2
          go_wp2_with fail
          clear hx1
          go_loopw [50] (fun v50 wy => ∃ k : Nat, v50 = .int .i64 k ∧ k ≤ m ∧ Hid (∀ q, q < k → 0 ≤ x.nt.getD q 0 ∧ x.nt.getD q 0 < (i : Int)) ∧ Hid (MI wy WA.heap.size k (pfN x.nt k)) ∧ Hid (Below WA.heap.size WA wy)) (fun v50 _ => m - (intOf v50).toNat)
          case atStart => exact ⟨0, rfl, Nat.zero_le _, Lib.hid (fun k hk => absurd hk (Nat.not_lt_zero _)), HMi, HBm⟩
          case round =>
            obtain ⟨k, rfl, hk, HK, HO, HBy⟩ := hrel
            have HXy := Lib.hid (HXx.out.below HBy.out)
            have HBz := Lib.hid (HBw.out.trans (HBy.out.mono HBw.out.size))
            have HQy := Lib.hid ((HBy.out.cell (p := ⟨W0.heap.size, 0, none⟩) (World.block_lt_of_cell? WA _ HQx.out)).trans HQx.out)
            by_cases hkl : k < m
            · obtain ⟨bb, oo, hBB, g6, -⟩ := ints_at (HI.out.below HBz.out).h1 k (by rw [HM.out]; exact hkl)
              subst hBB
              obtain ⟨a, ha⟩ : ∃ a, x.nt.getD k 0 = a := ⟨_, rfl⟩
              rw [ha] at g6
              have HA := Lib.hid ha
              have HKl := Lib.hid hkl
              clear ha
              have hbad : inB i a = false → ans = 1 := fun hb => HNo.out (fun h => by
                have h1 := h.t k (by rw [HM.out]; exact HKl.out)
                rw [HA.out, HN.out, hb] at h1
                cases h1)
              have HBad := Lib.hid hbad
              have hin := in_any a w.heap.size i c A wr HXy.out.k0
              have hqy := HQy.out
              obtain ⟨ib, hib⟩ : ∃ ib, inB i a = ib := ⟨_, rfl⟩
              rw [hib] at hin
              have HIn := Lib.hid hin
              have HIb := Lib.hid hib
              clear hbad hin
              cases ib
              · clear hib
                go_wp2_with fail
                refine HIn.out.mono ?_
                rintro e w6 ⟨rfl, rfl⟩
                go_wp2_with fail
                go_ret
                exact ⟨by rw [HBad.out HIb.out]; try rfl, HBz.out⟩
              · have hib2 := hib
                unfold inB at hib2
                rw [Bool.and_eq_true, decide_eq_true_eq, decide_eq_true_eq] at hib2
                obtain ⟨a', rfl⟩ : ∃ a' : Nat, a = (a' : Int) := ⟨a.toNat, by omega⟩
                have hai : a' < i := by omega
                have hcl := cntP_le x.nt k a'
                have hlk := HO.out.look a' (by omega)
                rw [pfN_get] at hlk
                obtain ⟨WN, hst, hmn, hgn⟩ := HO.out.store a' (by omega) ((cntP x.nt k a' : Int) + 1) (WalkArith.wf_i64 (by omega)) (by omega)
                rw [pfN_succ x.nt k a' (by rw [HM.out]; exact hkl) HA.out] at hmn
                generalize cntP x.nt k a' = cv at *
                have HMn := Lib.hid hmn
                have HGn := Lib.hid hgn
                have HIb2 := Lib.hid hib2
                clear hib hib2 hmn hgn hai
                go_wp2_with fail
                refine HIn.out.mono ?_
                rintro e w6 ⟨rfl, rfl⟩
                go_wp2_with fail
                refine ⟨⟨k + 1, by simp, HKl.out, Lib.hid (fun q hq => ?_), HMn, Lib.hid (HBy.out.grown HGn.out HBy.out.size (fun b hb => by injection hb with hb; rw [← hb]; exact Nat.le_refl _))⟩, by have := HKl.out; simp [intOf]; omega⟩
                by_cases e : q = k
                · subst e; rw [HA.out]; exact HIb2.out
                · exact HK.out q (by omega)
            · obtain rfl : k = m := by omega
              rename World => WB
              obtain ⟨q0, q1, q2⟩ := HXy.out
              clear hkl hk
              go_wp2_with fail
              clear q0 q1 q2
              go_loopw [66] (fun v66 wz => ∃ j : Nat, v66 = .int .i64 j ∧ j ≤ i ∧ Hid (∀ q, q < j → nodeB (wsOf x.nd (nAt x q)) (nAt x q) = true ∧ zeroB (nAt x q) = true ∧ portB x.nt q (nAt x q) = true) ∧ Hid (Below WB.heap.size WB wz)) (fun v66 _ => i - (intOf v66).toNat)
              case atStart => exact ⟨0, rfl, Nat.zero_le _, Lib.hid (fun k hk => absurd hk (Nat.not_lt_zero _)), Lib.hid (Below.refl _ _)⟩
              case round =>
                obtain ⟨j, rfl, hj, HJ, HBq⟩ := hrel
                have HBr := Lib.hid (HBz.out.trans (HBq.out.mono HBz.out.size))
                by_cases hjl : j < i
                · have hk' : j < x.nd.length := by rw [HN.out]; exact hjl
                  obtain ⟨b, o, A3, c3, hA, hl3, hbs, hND⟩ := nodes_in HI.out.h0 j hk'
                  subst hA
                  obtain ⟨y, hy⟩ : ∃ y, x.nd.getD j z39 = y := ⟨_, rfl⟩
                  rw [hy] at hl3 hND
                  have hyn : nAt x j = y := hy
                  have hym : y ∈ x.nd := by rw [← hy, List.getD_eq_getElem?_getD, List.getElem?_eq_getElem hk']; exact List.getElem_mem _
                  have hwj := HWi.out j hjl
                  rw [hyn] at hwj
                  have hwd := (wideB_iff _ _).1 hwj
                  have hYO : YOk x y := by
                    refine ⟨by rw [HN.out]; exact hn4, fun s hs => ?_, fun u hu => ?_, HI.out.z y hym, HI.out.b0 y hym⟩
                    · obtain ⟨q, hq, rfl⟩ := List.getElem_of_mem hs
                      have h1 := HWi.out q (by rw [← HN.out]; exact hq)
                      have h2 : nAt x q = x.nd[q] := by unfold nAt; rw [List.getD_eq_getElem?_getD, List.getElem?_eq_getElem hq]; rfl
                      rw [h2] at h1
                      have h3 := (wideB_iff _ _).1 h1
                      exact ⟨h3.1, h3.2.1⟩
                    · obtain ⟨q, hq, rfl⟩ := List.getElem_of_mem hu
                      have h3 := hwd.2.2 q hq
                      rw [List.getD_eq_getElem?_getD, List.getElem?_eq_getElem hq] at h3
                      exact h3
                  obtain ⟨h0, h1, h2, h3, h4, h5, h6, h7, hC3⟩ := hND _ HBr.out
                  have HC3 := Lib.hid hC3
                  have HYn := Lib.hid hyn
                  have HJl := Lib.hid hjl
                  have hmy : ∀ W, Below w.heap.size w W → Calls Tryd.prog 47 #[.agg #[.slice (some ⟨b, o, none⟩) i c, .slice B k d, .int .i64 x.pt], ndV y A3 c3] W fun e w' => e = .returned (.bool (nodeB (wsOf x.nd y) y && zeroB y)) ∧ Below W.heap.size W w' := by
                    intro W hW
                    have h9 := lmay_any x _ c B d y A3 c3 W (HI.out.below hW) (hND _ hW).hC hl3 hYO
                    unfold nlV at h9
                    rw [HN.out, HM.out] at h9
                    exact h9
                  have HMy := Lib.hid hmy
                  have hpo : portB x.nt j y = (!decide (y.f0 = 2) || decide (x.nt.count (j : Int) = 1)) := rfl
                  have HPo := Lib.hid hpo
                  clear hk' hbs hND hy hyn hym hwj hwd hYO hC3 hmy hl3 hpo
                  go_upto_region 21 with fail
                  obtain ⟨W5, hW5⟩ : ∃ W, wr.alloc (Obj.cells #[Value.int IntKind.i64 y.f0, Value.int IntKind.i64 y.f1, Value.int IntKind.i64 y.f2, Value.slice A3 y.f3.length c3, Value.string y.f4, Value.int IntKind.i64 y.f5, Value.int IntKind.i64 y.f6, Value.int IntKind.i64 y.f7] 39) = W := ⟨_, rfl⟩
                  rw [hW5]
                  obtain ⟨hn5, hb5⟩ := box_node HC3.out hW5
                  have HN5 := Lib.hid hn5
                  obtain ⟨z0, z1, z2, z3, z4, z5, z6, z7, hC5⟩ := HN5.out
                  have hbq5 := HBq.out.trans (hb5.mono HBq.out.size)
                  have HB5 := Lib.hid hbq5
                  have HBe := Lib.hid (HBr.out.trans (hb5.mono HBr.out.size))
                  obtain ⟨i0, i1, i2⟩ := HXy.out.below hbq5
                  clear hn5 hW5 hb5 h0 h1 h2 h3 h4 h5 h6 h7 hC5 hbq5
                  go_wp2_with fail
                  clear z1 z2 z3 z4 z5 z6 z7 i0 i1 i2
                  refine (HMy.out W5 HBe.out).mono ?_
                  rintro e w6 ⟨rfl, hb6⟩
                  have HB6 := Lib.hid (HB5.out.trans (hb6.mono HB5.out.size))
                  have HBf := Lib.hid (HBe.out.trans (hb6.mono HBe.out.size))
                  have z0' := (HN5.out.below hb6).k0
                  have hlk := (HO.out.below HB6.out).look j (by omega)
                  rw [pfN_get, show cntP x.nt k j = x.nt.count (j : Int) by unfold cntP; rw [← HM.out, List.take_length]] at hlk
                  obtain ⟨nb, hnb⟩ : ∃ nb, (nodeB (wsOf x.nd y) y && zeroB y) = nb := ⟨_, rfl⟩
                  rw [hnb]
                  have HNb := Lib.hid hnb
                  have hbadn : nb = false → ans = 1 := fun hb => HNo.out (fun h => by
                    have h1 := h.k j (by rw [HN.out]; exact HJl.out)
                    have h2 := h.z j (by rw [HN.out]; exact HJl.out)
                    rw [HYn.out] at h1 h2
                    have := HNb.out
                    rw [h1, h2, hb] at this
                    cases this)
                  have hbadp : portB x.nt j y = false → ans = 1 := fun hb => HNo.out (fun h => by
                    have h1 := h.q j (by rw [HN.out]; exact HJl.out)
                    rw [HYn.out, hb] at h1
                    cases h1)
                  have HBn := Lib.hid hbadn
                  have HBp := Lib.hid hbadp
                  clear hbadn hbadp hnb hb6 z0
                  cases nb
                  · go_wp2_with fail
                    go_ret
                    exact ⟨by rw [HBn.out (by first | trivial | rfl)]; try rfl, HBf.out⟩
                  · have hnz : nodeB (wsOf x.nd y) y = true ∧ zeroB y = true := by
                      have := HNb.out
                      rw [Bool.and_eq_true] at this
                      exact this
                    have HNz := Lib.hid hnz
                    clear hnz HNb
                    by_cases f2 : y.f0 = 2
                    · have d2 : (y.f0 == 2) = true := beq_iff_eq.mpr f2
                      have F2 := Lib.hid f2
                      clear f2
                      by_cases cc : x.nt.count (j : Int) = 1
                      · have hpt : portB x.nt j y = true := by rw [HPo.out, decide_eq_true cc]; simp
                        have HPt := Lib.hid hpt
                        have d3 : ((x.nt.count (j : Int) : Int) != 1) = false := bne_eq_false_iff_eq.mpr (by omega)
                        generalize x.nt.count (j : Int) = cn at *
                        clear hpt cc
                        go_wp2_with fail
                        refine ⟨⟨j + 1, by simp, HJl.out, Lib.hid (fun q hq => ?_), HB6⟩, by have := HJl.out; simp [intOf]; omega⟩
                        by_cases e : q = j
                        · subst e; rw [HYn.out]; exact ⟨HNz.out.1, HNz.out.2, HPt.out⟩
                        · exact HJ.out q (by omega)
                      · have hpt : portB x.nt j y = false := by rw [HPo.out, decide_eq_false cc, decide_eq_true F2.out]; rfl
                        have HPt := Lib.hid hpt
                        have d3 : ((x.nt.count (j : Int) : Int) != 1) = true := bne_iff_ne.mpr (by omega)
                        generalize x.nt.count (j : Int) = cn at *
                        clear hpt cc
                        go_wp2_with fail
                        go_ret
                        exact ⟨by rw [HBp.out HPt.out]; try rfl, HBf.out⟩
                    · have d2 : (y.f0 == 2) = false := beq_eq_false_iff_ne.mpr f2
                      have hpt : portB x.nt j y = true := by rw [HPo.out, decide_eq_false f2]; rfl
                      have HPt := Lib.hid hpt
                      clear hpt f2
                      go_wp2_with fail
                      refine ⟨⟨j + 1, by simp, HJl.out, Lib.hid (fun q hq => ?_), HB6⟩, by have := HJl.out; simp [intOf]; omega⟩
                      by_cases e : q = j
                      · subst e; rw [HYn.out]; exact ⟨HNz.out.1, HNz.out.2, HPt.out⟩
                      · exact HJ.out q (by omega)
                · obtain rfl : j = i := by omega
                  have hyes : ans = 0 := HYes.out ⟨by rw [HN.out]; exact hn4, by rw [HP.out, HM.out], fun q hq => HWi.out q (by rw [← HN.out]; exact hq), fun q hq => by unfold inB; have := HK.out q (by rw [← HM.out]; exact hq); rw [HN.out, decide_eq_true this.1, decide_eq_true this.2]; rfl, fun q hq => (HJ.out q (by rw [← HN.out]; exact hq)).1, fun q hq => (HJ.out q (by rw [← HN.out]; exact hq)).2.1, fun q hq => (HJ.out q (by rw [← HN.out]; exact hq)).2.2⟩
                  have HYe := Lib.hid hyes
                  clear hyes
                  go_wp2_with fail
                  go_ret
                  exact ⟨by rw [HYe.out]; try rfl, HBr.out⟩
    · have d1 : (x.pt != (m : Int)) = true := bne_iff_ne.mpr hp
      have HP := Lib.hid hp
      clear hp
      go_wp2_with fail
      go_ret
      exact ⟨by rw [HNo.out (fun h => HP.out (by rw [h.p, HM.out]))]; try rfl, HB0.out⟩
  · have HQ := Lib.hid hn4
    go_wp2_with fail
    go_ret
    exact ⟨by rw [HNo.out (fun h => HQ.out (by rw [← HN.out]; exact h.n))]; try rfl, HB0.out⟩
end Go.Proofs.YtonnmkhmhndalaaDoor
