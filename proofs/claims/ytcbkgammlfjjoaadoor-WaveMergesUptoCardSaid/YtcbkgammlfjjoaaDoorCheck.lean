/- wave.Check, walked. -/
import Derived.Test.YtcbkgammlfjjoaaDoorWb
import Derived.Deep.DeepCutAuto
namespace Go.Proofs.YtcbkgammlfjjoaaDoor
set_option linter.unusedVariables false
set_option linter.unusedSimpArgs false
open Go.RowKit Go.Proofs.YtcbkgammlfjjoaaDoorW.PrintWords Go.Proofs.YtcbkgammlfjjoaaDoorW.PrintLast Go.Proofs.YtcbkgammlfjjoaaDoorW.PrintMore

attribute [local irreducible] wpQuiet
set_option maxRecDepth 100000 in
set_option maxHeartbeats 16000000 in
theorem check_any (x : WV) (A0 : Option Addr) (c0 : Nat) (A1 : Option Addr) (c1 : Nat) (A2 : Option Addr) (c2 : Nat) (A3 : Option Addr) (c3 : Nat) (w : World) (hI : WIn w x A0 c0 A1 c1 A2 c2 A3 c3) :
    Calls Tryd.prog 16 #[wvV x A0 c0 A1 c1 A2 c2 A3 c3] w fun e w' => e = .returned (.int .i64 (if mayB x then 0 else 1)) ∧ Below w.heap.size w w' := by
  have HI := Lib.hid hI
  clear hI
  obtain ⟨ans, hans⟩ : ∃ ans : Int, (if mayB x then 0 else 1) = ans := ⟨_, rfl⟩
  rw [hans]
  have HAns := Lib.hid hans
  clear hans
  by_cases hn : x.nm.length ≤ 4096
  · by_cases hw : x.wd.length = x.nm.length
    · by_cases hf : x.fi.length = x.nm.length
      · have g1 : decide ((x.nm.length : Int) > 4096) = false := by rw [decide_eq_false_iff_not]; omega
        have HW := Lib.hid hw
        have HF := Lib.hid hf
        go_enter Tryd.func16, Tryd.ntmps16
        go_wp2
        clear hw hf
        obtain ⟨w1, hw1⟩ : ∃ w1, (w.alloc (Obj.cells #[Value.slice A0 x.nm.length c0, Value.slice A1 x.nm.length c1, Value.slice A2 x.nm.length c2, Value.slice A3 x.li.length c3] 26)) = w1 := ⟨_, rfl⟩
        have hb1 : Below w.heap.size w w1 := by rw [← hw1]; exact below_alloc (Below.refl _ _) _
        have hc0 : w1.cell? ⟨w.heap.size, 0, none⟩ = some (.slice A0 x.nm.length c0) := by rw [← hw1]; simp [go_sem]
        have hc1 : w1.cell? ⟨w.heap.size, 1, none⟩ = some (.slice A1 x.nm.length c1) := by rw [← hw1]; simp [go_sem]
        have hc2 : w1.cell? ⟨w.heap.size, 2, none⟩ = some (.slice A2 x.nm.length c2) := by rw [← hw1]; simp [go_sem]
        have hc3 : w1.cell? ⟨w.heap.size, 3, none⟩ = some (.slice A3 x.li.length c3) := by rw [← hw1]; simp [go_sem]
        rw [hw1]
        clear hw1
        have HB1 := Lib.hid hb1
        have HC0 := Lib.hid hc0
        have HC1 := Lib.hid hc1
        have HC2 := Lib.hid hc2
        have HC3 := Lib.hid hc3
        clear hb1 hc0 hc1 hc2 hc3
        go_loopw [29] (fun v29 wr => ∃ k : Nat, v29 = .int .i64 k ∧ k ≤ x.nm.length ∧ Hid (∀ j, j < k → netB x j = true) ∧ Hid (Below w1.heap.size w1 wr)) (fun v29 _ => x.nm.length - (intOf v29).toNat)
        case atStart => exact ⟨0, rfl, Nat.zero_le _, fun j hj => absurd hj (Nat.not_lt_zero j), Below.refl _ _⟩
        case round =>
          obtain ⟨k, rfl, hk, HN, HB⟩ := hrel
          by_cases hlt : k < x.nm.length
          · go_wp2_with fail
            have hI2 := (HI.out.below HB1.out).below HB.out
            obtain ⟨b0, o0, hA0, hs0, _⟩ := str_cell hI2.h0 hI2.a0 k hlt
            obtain ⟨b1, o1, hA1, hs1, _⟩ := int_cell hI2.h1 hI2.a1 k (by rw [HW.out]; exact hlt)
            obtain ⟨b2, o2, hA2, hs2, _⟩ := str_cell hI2.h2 hI2.a2 k (by rw [HF.out]; exact hlt)
            subst hA0 hA1 hA2
            obtain ⟨wk, hwk⟩ : ∃ wk, x.wd.getD k 0 = wk := ⟨_, rfl⟩
            rw [hwk] at hs1
            have hz2 : (sAt x.fi k).size ≤ 9223372036854775807 := hI2.z2 _ (by rw [sAt, List.getD_eq_getElem?_getD, List.getElem?_eq_getElem (by rw [HF.out]; exact hlt)]; exact List.getElem_mem _)
            have f0 : ∀ p : BelowBy wr, p.W.cell? ⟨w.heap.size, 0, none⟩ = some (.slice (some ⟨b0, o0, none⟩) x.nm.length c0) := fun p => p.cell ((HB.out.cell (p := ⟨w.heap.size, 0, none⟩) (World.block_lt_of_cell? w1 _ HC0.out)).trans HC0.out)
            have f1 : ∀ p : BelowBy wr, p.W.cell? ⟨w.heap.size, 1, none⟩ = some (.slice (some ⟨b1, o1, none⟩) x.nm.length c1) := fun p => p.cell ((HB.out.cell (p := ⟨w.heap.size, 1, none⟩) (World.block_lt_of_cell? w1 _ HC1.out)).trans HC1.out)
            have f2 : ∀ p : BelowBy wr, p.W.cell? ⟨w.heap.size, 2, none⟩ = some (.slice (some ⟨b2, o2, none⟩) x.nm.length c2) := fun p => p.cell ((HB.out.cell (p := ⟨w.heap.size, 2, none⟩) (World.block_lt_of_cell? w1 _ HC2.out)).trans HC2.out)
            have e0 : ∀ p : BelowBy wr, p.W.cell? ⟨b0, o0 + k, none⟩ = some (.string (sAt x.nm k)) := fun p => p.cell hs0
            have e1 : ∀ p : BelowBy wr, p.W.cell? ⟨b1, o1 + k, none⟩ = some (.int .i64 wk) := fun p => p.cell hs1
            have e2 : ∀ p : BelowBy wr, p.W.cell? ⟨b2, o2 + k, none⟩ = some (.string (sAt x.fi k)) := fun p => p.cell hs2
            have hfail : netB x k = false → mayB x = false := by
              intro h
              have h2 : (List.range x.nm.length).all (netB x) = false := by
                rw [List.all_eq_false]
                exact ⟨k, List.mem_range.2 hlt, by simp [h]⟩
              simp [mayB, h2]
            have HFail := Lib.hid hfail
            have HX2 := Lib.hid hI2
            clear hfail hI2 hs0 hs1 hs2
            have HWK := Lib.hid hwk
            have hnet : netB x k = (decide ((sAt x.nm k).size ≤ 256) && !(sAt x.nm k).data.toList.any (fun b => oddR b.toNat) && (vOk (sAt x.fi k) && decide (((sAt x.fi k).size : Int) = wk))) := by
              rw [netB, nOk, all_not, hwk]
            have HNet := Lib.hid hnet
            clear hnet hwk
            have hodd := fun W => odd_any (sAt x.nm k) W
            have hvec := fun W => vec_any (sAt x.fi k) W hz2
            generalize hOD : (sAt x.nm k).data.toList.any (fun b => oddR b.toNat) = od at hodd
            generalize hVK : vOk (sAt x.fi k) = vk at hvec
            have HO := Lib.hid hodd
            have HV := Lib.hid hvec
            have HOD := Lib.hid hOD
            have HVK := Lib.hid hVK
            clear hodd hvec hOD hVK
            by_cases h1 : (sAt x.nm k).size ≤ 256
            · have d1 : decide (((sAt x.nm k).size : Int) > 256) = false := by rw [decide_eq_false_iff_not]; omega
              cases od with
              | true =>
                obtain rfl : ans = 1 := by rw [← HAns.out, HFail.out (by rw [HNet.out, HOD.out, HVK.out]; simp)]; rfl
                clear HFail HNet HOD HVK HAns
                refine region_below (by kernel_rfl) (by kernel_rfl) ?_
                repeat (quiet_step (with_reducible first | exact call_below _ (HO.out _) | exact call_below _ (HV.out _)))
                refine wpQuiet_nil ?_
                rintro _ ⟨p, rfl⟩
                go_wp2
                go_ret
                exact ⟨rfl, HB1.out.trans ((HB.out.trans (p.h.mono HB.out.size)).mono HB1.out.size)⟩
              | false =>
                cases vk with
                | false =>
                  obtain rfl : ans = 1 := by rw [← HAns.out, HFail.out (by rw [HNet.out, HOD.out, HVK.out]; simp)]; rfl
                  clear HFail HNet HOD HVK HAns
                  refine region_below (by kernel_rfl) (by kernel_rfl) ?_
                  repeat (quiet_step (with_reducible first | exact call_below _ (HO.out _) | exact call_below _ (HV.out _)))
                  refine wpQuiet_nil ?_
                  rintro _ ⟨p, rfl⟩
                  go_wp2
                  go_ret
                  exact ⟨rfl, HB1.out.trans ((HB.out.trans (p.h.mono HB.out.size)).mono HB1.out.size)⟩
                | true =>
                  by_cases h2 : ((sAt x.fi k).size : Int) = wk
                  · have d2 : (((sAt x.fi k).size : Int) != wk) = false := by rw [h2]; exact bne_self_eq_false _
                    have hne : netB x k = true := by rw [HNet.out, HOD.out, HVK.out, decide_eq_true h1, decide_eq_true h2]; rfl
                    have HNe := Lib.hid hne
                    clear hne HNet HOD HVK HFail h2
                    refine region_below (by kernel_rfl) (by kernel_rfl) ?_
                    repeat (quiet_step (with_reducible first | exact call_below _ (HO.out _) | exact call_below _ (HV.out _)))
                    refine wpQuiet_nil ?_
                    rintro _ ⟨p, rfl⟩
                    go_wp2
                    refine ⟨⟨k + 1, by simp, hlt, Lib.hid (fun j hj => ?_), Lib.hid (HB.out.trans (p.h.mono HB.out.size))⟩, by simp [intOf]; omega⟩
                    rcases Nat.lt_or_ge j k with h | h
                    · exact HN.out j h
                    · rw [show j = k from by omega]
                      exact HNe.out
                  · have d2 : (((sAt x.fi k).size : Int) != wk) = true := by rw [bne_iff_ne]; exact h2
                    obtain rfl : ans = 1 := by rw [← HAns.out, HFail.out (by rw [HNet.out, HOD.out, HVK.out]; rw [decide_eq_false h2]; simp)]; rfl
                    clear HFail HNet HOD HVK HAns
                    refine region_below (by kernel_rfl) (by kernel_rfl) ?_
                    repeat (quiet_step (with_reducible first | exact call_below _ (HO.out _) | exact call_below _ (HV.out _)))
                    refine wpQuiet_nil ?_
                    rintro _ ⟨p, rfl⟩
                    go_wp2
                    go_ret
                    exact ⟨rfl, HB1.out.trans ((HB.out.trans (p.h.mono HB.out.size)).mono HB1.out.size)⟩
            · have d1 : decide (((sAt x.nm k).size : Int) > 256) = true := by rw [decide_eq_true_iff]; omega
              obtain rfl : ans = 1 := by rw [← HAns.out, HFail.out (by rw [HNet.out, HOD.out, HVK.out]; rw [decide_eq_false h1]; simp)]; rfl
              clear HFail HNet HOD HVK HAns
              refine region_below (by kernel_rfl) (by kernel_rfl) ?_
              repeat (quiet_step (with_reducible first | exact call_below _ (HO.out _) | exact call_below _ (HV.out _)))
              refine wpQuiet_nil ?_
              rintro _ ⟨p, rfl⟩
              go_wp2
              go_ret
              exact ⟨rfl, HB1.out.trans ((HB.out.trans (p.h.mono HB.out.size)).mono HB1.out.size)⟩
          · obtain rfl : k = x.nm.length := by omega
            have hI2 := (HI.out.below HB1.out).below HB.out
            have HC2' := (HB.out.cell (p := ⟨w.heap.size, 2, none⟩) (World.block_lt_of_cell? w1 _ HC2.out)).trans HC2.out
            have HC3' := (HB.out.cell (p := ⟨w.heap.size, 3, none⟩) (World.block_lt_of_cell? w1 _ HC3.out)).trans HC3.out
            have hcl := clone_str A2 c2 x.fi wr hI2.a2 hI2.h2 (by rw [HF.out]; omega)
            rw [HF.out] at hcl
            have HCl := Lib.hid hcl
            have HX2 := Lib.hid hI2
            clear hcl hI2
            go_wp2_with fail
            have h := HCl.out
            refine h.mono ?_
            clear h
            rintro e w2 ⟨v, rfl, hr, hb2⟩
            have HB2 := Lib.hid (HB.out.trans (hb2.mono HB.out.size))
            have HR := Lib.hid (Kd.R_lower hr HB.out.size)
            have HX3 := Lib.hid (HX2.out.below hb2)
            have HC3'' := (hb2.cell (p := ⟨w.heap.size, 3, none⟩) (World.block_lt_of_cell? wr _ HC3')).trans HC3'
            clear hr hb2 HC2' HC3' HX2 HCl HB
            go_wp2_with fail
            clear HC3''
            have hR0 : Kd.R Kd.string 9 w2 w1.heap.size (fun _ => True) v (nowAt x 0) := HR.out
            have HR0 := Lib.hid hR0
            clear hR0 HR
            go_loopw [78] (fun v78 wx => ∃ i : Nat, v78 = .int .i64 i ∧ i ≤ x.li.length ∧ Hid (∀ j, j < i → placeB x j = true ∧ valB x j = true) ∧ Hid (Below w1.heap.size w1 wx) ∧ Hid (Kd.R Kd.string 9 wx w1.heap.size (fun _ => True) v (nowAt x i))) (fun v78 _ => x.li.length - (intOf v78).toNat)
            case atStart => exact ⟨0, rfl, Nat.zero_le _, Lib.hid (fun j hj => absurd hj (Nat.not_lt_zero j)), HB2, HR0⟩
            case round =>
              obtain ⟨i, rfl, hi, HO, HBx, HRx⟩ := hrel
              by_cases hlt : i < x.li.length
              · have hI2 := (HI.out.below HB1.out).below HBx.out
                obtain ⟨b3, o3, hA3, hs30, hs31, hs32, hb3⟩ := chg_cell hI2.h3 hI2.a3 i hlt
                subst hA3
                have hzc : (cAt x i).f2.size ≤ 9223372036854775807 := hI2.z3 _ (by rw [cAt, List.getD_eq_getElem?_getD, List.getElem?_eq_getElem hlt]; exact List.getElem_mem _)
                have hfail : (placeB x i && valB x i) = false → mayB x = false := by
                  intro h
                  have h2 : (List.range x.li.length).all (fun i => placeB x i && valB x i) = false := by
                    rw [List.all_eq_false]
                    exact ⟨i, List.mem_range.2 hlt, by simp [h]⟩
                  simp [mayB, h2]
                have HFail := Lib.hid hfail
                have HX2 := Lib.hid hI2
                have HZc := Lib.hid hzc
                have hpl : placeB x i = (decide (0 ≤ (cAt x i).f1) && (decide ((cAt x i).f1 < x.nm.length) && (decide (0 ≤ (cAt x i).f0) && (decide ((cAt x i).f0 ≤ 4611686018427387903) && (decide (i = 0) || aheadB (cAt x (i - 1)) (cAt x i)))))) := rfl
                have hvl : valB x i = (vOk (cAt x i).f2 && (decide (((cAt x i).f2.size : Int) = x.wd.getD (cAt x i).f1.toNat 0) && !((cAt x i).f2.toList == (sAt (nowAt x i) (cAt x i).f1.toNat).toList))) := rfl
                have hnx : nowAt x (i + 1) = (nowAt x i).set (cAt x i).f1.toNat (cAt x i).f2 := by
                  unfold nowAt cAt
                  rw [List.take_succ_eq_append_getElem hlt, List.foldl_append, List.getD_eq_getElem?_getD, List.getElem?_eq_getElem hlt]
                  rfl
                have hnl : (nowAt x i).length = x.nm.length := by
                  unfold nowAt
                  rw [← HF.out]
                  generalize x.li.take i = l
                  generalize x.fi = f
                  induction l generalizing f with
                  | nil => rfl
                  | cons c l ih => rw [List.foldl_cons, ih, List.length_set]
                rw [show x.li.getD i z59 = cAt x i from rfl] at hs30 hs31 hs32
                generalize cAt x i = c at *
                obtain ⟨tm, nt, vl⟩ := c
                simp only at hs30 hs31 hs32 hpl hvl hnx hzc
                have HPl := Lib.hid hpl
                have HVl := Lib.hid hvl
                have HNx := Lib.hid hnx
                have HNl := Lib.hid hnl
                have HS30 := Lib.hid hs30
                clear hpl hvl hnx hnl hfail hI2 hzc hb3
                go_upto_region 15 with fail
                obtain ⟨W5, hW5⟩ : ∃ W5, wr.alloc (Obj.cells #[Value.int IntKind.i64 tm, Value.int IntKind.i64 nt, Value.string vl] 59) = W5 := ⟨_, rfl⟩
                have hb5 : Below wr.heap.size wr W5 := by rw [← hW5]; exact below_alloc (Below.refl _ _) _
                have hs5 : W5.heap.size = wr.heap.size + 1 := by rw [← hW5]; simp
                have hq0 : W5.cell? ⟨wr.heap.size, 0, none⟩ = some (.int .i64 tm) := by rw [← hW5]; simp [go_sem]
                have hq1 : W5.cell? ⟨wr.heap.size, 1, none⟩ = some (.int .i64 nt) := by rw [← hW5]; simp [go_sem]
                have hq2 : W5.cell? ⟨wr.heap.size, 2, none⟩ = some (.string vl) := by rw [← hW5]; simp [go_sem]
                rw [hW5]
                clear hW5 hs30 hs31 hs32
                have HB5 := Lib.hid hb5
                have HS5 := Lib.hid hs5
                have HQ0 := Lib.hid hq0
                have HQ1 := Lib.hid hq1
                have HQ2 := Lib.hid hq2
                have HX5 := Lib.hid (HX2.out.below hb5)
                have HB15 := Lib.hid (HBx.out.trans (hb5.mono HBx.out.size))
                have HR5 := Lib.hid (Kd.R_below HRx.out hb5)
                clear hb5 hs5 hq0 hq1 hq2
                go_cut [116] (fun s116 wx => ∃ b : Bool, s116 = .bool b ∧ Hid (placeB x i = !b) ∧ Hid (Below W5.heap.size W5 wx))
                case first =>
                  have f3 : ∀ p : BelowBy W5, p.W.cell? ⟨w.heap.size, 3, none⟩ = some (.slice (some ⟨b3, o3, none⟩) x.li.length c3) := fun p => p.cell ((HB15.out.cell (p := ⟨w.heap.size, 3, none⟩) (World.block_lt_of_cell? w1 _ HC3.out)).trans HC3.out)
                  have e0 : ∀ p : BelowBy W5, p.W.cell? ⟨wr.heap.size, 0, none⟩ = some (.int .i64 tm) := fun p => p.cell HQ0.out
                  have e1 : ∀ p : BelowBy W5, p.W.cell? ⟨wr.heap.size, 1, none⟩ = some (.int .i64 nt) := fun p => p.cell HQ1.out
                  have e2 : ∀ p : BelowBy W5, p.W.cell? ⟨wr.heap.size, 2, none⟩ = some (.string vl) := fun p => p.cell HQ2.out
                  by_cases t1 : 0 ≤ nt
                  · have d1 : decide (nt < 0) = false := by rw [decide_eq_false_iff_not]; omega
                    have T1 := Lib.hid t1
                    clear t1
                    by_cases t2 : nt < x.nm.length
                    · have d2 : decide (nt ≥ (x.nm.length : Int)) = false := by rw [decide_eq_false_iff_not]; omega
                      have T2 := Lib.hid t2
                      clear t2
                      by_cases t3 : 0 ≤ tm
                      · have d3 : decide (tm < 0) = false := by rw [decide_eq_false_iff_not]; omega
                        have T3 := Lib.hid t3
                        clear t3
                        by_cases t4 : tm ≤ 4611686018427387903
                        · have d4 : decide (tm > 4611686018427387903) = false := by rw [decide_eq_false_iff_not]; omega
                          have T4 := Lib.hid t4
                          clear t4
                          by_cases t5 : i = 0
                          · subst t5
                            refine region_below (by kernel_rfl) (by kernel_rfl) ?_
                            repeat (quiet_step (fail))
                            refine wpQuiet_nil ?_
                            rintro _ ⟨p, rfl⟩
                            go_wp2_with fail
                            go_meet
                            exact ⟨false, rfl, Lib.hid (by rw [HPl.out]; rw [decide_eq_true T1.out, decide_eq_true T2.out, decide_eq_true T3.out, decide_eq_true T4.out]; rfl), Lib.hid p.h⟩
                          · obtain ⟨i', rfl⟩ : ∃ i', i = i' + 1 := ⟨i - 1, by omega⟩
                            obtain ⟨b3', o3', hA3, hs30, hs31, hs32, hb3⟩ := chg_cell HX5.out.h3 HX5.out.a3 i' (by omega)
                            injection hA3 with hA3
                            injection hA3 with h1 h2
                            subst h1 h2
                            have d5 : decide ((i' : Int) + 1 > 0) = true := by rw [decide_eq_true_iff]; omega
                            have d6 : IntKind.i64.wrap ((i' : Int) + 1 - 1) = (i' : Int) := by rw [show (i' : Int) + 1 - 1 = i' from by omega]; have hb := HX5.out.b3; exact IntWalk.i64_in _ (by omega)
                            have d6' : IntKind.i64.wrap (i' : Int) = (i' : Int) := by have hb := HX5.out.b3; exact IntWalk.i64_in _ (by omega)
                            have d6'' : wrap64 (i' : Int) = (i' : Int) := by have hb := HX5.out.b3; unfold wrap64; omega
                            have d8 : i' < x.li.length := by omega
                            have d7 : (i' : Int) < (x.li.length : Int) := by omega
                            have hah : placeB x (i' + 1) = aheadB (cAt x i') ⟨tm, nt, vl⟩ := by
                              rw [HPl.out, decide_eq_true T1.out, decide_eq_true T2.out, decide_eq_true T3.out, decide_eq_true T4.out]
                              simp
                            have HAh := Lib.hid hah
                            clear hah hb3
                            rw [show x.li.getD i' z59 = cAt x i' from rfl] at hs30 hs31 hs32
                            generalize cAt x i' = c at *
                            obtain ⟨tm', nt', vl'⟩ := c
                            simp only at hs30 hs31 hs32
                            have g0 : ∀ p : BelowBy W5, p.W.cell? ⟨b3, o3 + i' * 3, none⟩ = some (.int .i64 tm') := fun p => p.cell hs30
                            have g1' : ∀ p : BelowBy W5, p.W.cell? ⟨b3, o3 + i' * 3 + 1, none⟩ = some (.int .i64 nt') := fun p => p.cell hs31
                            have g2 : ∀ p : BelowBy W5, p.W.cell? ⟨b3, o3 + i' * 3 + 2, none⟩ = some (.string vl') := fun p => p.cell hs32
                            have hahd := fun W => ahead_any ⟨tm', nt', vl'⟩ ⟨tm, nt, vl⟩ W
                            have hng := aheadI_neg ⟨tm', nt', vl'⟩ ⟨tm, nt, vl⟩
                            generalize aheadI ⟨tm', nt', vl'⟩ ⟨tm, nt, vl⟩ = ai at hahd hng
                            generalize aheadB ⟨tm', nt', vl'⟩ ⟨tm, nt, vl⟩ = ab at HAh hng
                            have HAhd := Lib.hid hahd
                            clear hahd hs30 hs31 hs32
                            cases ab
                            all_goals
                              simp only [Bool.not_true, Bool.not_false] at hng
                              refine region_below (by kernel_rfl) (by kernel_rfl) ?_
                              repeat (quiet_step (with_reducible first | exact call_below _ (HAhd.out _) | fail))
                              refine wpQuiet_nil ?_
                              rintro _ ⟨p, rfl⟩
                              go_wp2_with fail
                              go_meet
                              first | exact ⟨true, rfl, Lib.hid (by rw [HAh.out]; rfl), Lib.hid p.h⟩ | exact ⟨false, rfl, Lib.hid (by rw [HAh.out]; rfl), Lib.hid p.h⟩
                        · have d4 : decide (tm > 4611686018427387903) = true := by rw [decide_eq_true_iff]; omega
                          have T4 := Lib.hid t4
                          clear t4
                          refine region_below (by kernel_rfl) (by kernel_rfl) ?_
                          repeat (quiet_step (fail))
                          refine wpQuiet_nil ?_
                          rintro _ ⟨p, rfl⟩
                          go_wp2_with fail
                          go_meet
                          exact ⟨true, rfl, Lib.hid (by rw [HPl.out]; rw [decide_eq_false (show ¬ tm ≤ 4611686018427387903 by have := T4.out; omega)]; simp), Lib.hid p.h⟩
                      · have d3 : decide (tm < 0) = true := by rw [decide_eq_true_iff]; omega
                        have T3 := Lib.hid t3
                        clear t3
                        refine region_below (by kernel_rfl) (by kernel_rfl) ?_
                        repeat (quiet_step (fail))
                        refine wpQuiet_nil ?_
                        rintro _ ⟨p, rfl⟩
                        go_wp2_with fail
                        go_meet
                        exact ⟨true, rfl, Lib.hid (by rw [HPl.out]; rw [decide_eq_false (show ¬ 0 ≤ tm by have := T3.out; omega)]; simp), Lib.hid p.h⟩
                    · have d2 : decide (nt ≥ (x.nm.length : Int)) = true := by rw [decide_eq_true_iff]; omega
                      have T2 := Lib.hid t2
                      clear t2
                      refine region_below (by kernel_rfl) (by kernel_rfl) ?_
                      repeat (quiet_step (fail))
                      refine wpQuiet_nil ?_
                      rintro _ ⟨p, rfl⟩
                      go_wp2_with fail
                      go_meet
                      exact ⟨true, rfl, Lib.hid (by rw [HPl.out]; rw [decide_eq_false (show ¬ nt < (x.nm.length : Int) by have := T2.out; omega)]; simp), Lib.hid p.h⟩
                  · have d1 : decide (nt < 0) = true := by rw [decide_eq_true_iff]; omega
                    have T1 := Lib.hid t1
                    clear t1
                    refine region_below (by kernel_rfl) (by kernel_rfl) ?_
                    repeat (quiet_step (fail))
                    refine wpQuiet_nil ?_
                    rintro _ ⟨p, rfl⟩
                    go_wp2_with fail
                    go_meet
                    exact ⟨true, rfl, Lib.hid (by rw [HPl.out]; rw [decide_eq_false (show ¬ 0 ≤ nt by have := T1.out; omega)]; simp), Lib.hid p.h⟩
                case rest =>
                  obtain ⟨pb, rfl, HPb, HBc⟩ := hcut
                  cases pb with
                  | true =>
                    obtain rfl : ans = 1 := by rw [← HAns.out, HFail.out (by rw [HPb.out]; rfl)]; rfl
                    clear HFail HAns HPb HPl HVl
                    go_wp2_with fail
                    go_ret
                    exact ⟨rfl, HB1.out.trans ((HB15.out.trans (HBc.out.mono HB15.out.size)).mono HB1.out.size)⟩
                  | false =>
                    have hT : 0 ≤ nt ∧ nt < x.nm.length := by
                      have h := HPl.out.symm.trans HPb.out
                      simp only [Bool.not_false, Bool.and_eq_true, decide_eq_true_eq] at h
                      exact ⟨h.1, h.2.1⟩
                    obtain ⟨k, rfl⟩ : ∃ k : Nat, nt = k := ⟨nt.toNat, by omega⟩
                    have hkn : k < x.nm.length := by have := hT.2; omega
                    clear hT
                    go_upto_region 17 with fail
                    have hX7 := HX5.out.below HBc.out
                    have hR7 := Kd.R_below HR5.out HBc.out
                    obtain ⟨b1, o1, hA1, hs1, hb1'⟩ := int_cell hX7.h1 hX7.a1 k (by rw [HW.out]; exact hkn)
                    subst hA1
                    have hz7 : vl.size ≤ 9223372036854775807 := HZc.out
                    obtain ⟨wk, hwk⟩ : ∃ wk, x.wd.getD k 0 = wk := ⟨_, rfl⟩
                    have hvl3 := HVl.out
                    rw [Int.toNat_natCast, hwk] at hvl3
                    rw [hwk] at hs1
                    clear HVl
                    have HVl := Lib.hid hvl3
                    have HNx2 := HNx.out
                    rw [Int.toNat_natCast] at HNx2
                    clear HNx
                    have HN2 := Lib.hid HNx2
                    have hnl7 := HNl.out
                    clear hvl3 hwk HNx2
                    generalize nowAt x i = nw at *
                    obtain ⟨g, cap, rfl, hg0, hg1, -⟩ := Kd.R_form hR7 (by rw [hnl7]; omega)
                    have hrc := Kd.R_cell (enc := Value.string) (h1 := fun _ => rfl) ByteArray.empty hR7 (k : Int) (by omega) (by rw [hnl7]; omega)
                    rw [Int.toNat_natCast, show rdOf ByteArray.empty nw (k : Int) = sAt nw k from rfl] at hrc
                    generalize hstv : sAt nw k = st at *
                    have HSt := Lib.hid hstv
                    have HR7 := Lib.hid hR7
                    have HX7 := Lib.hid hX7
                    have HG0 := Lib.hid hg0
                    have HG1 := Lib.hid hg1
                    have HRC := Lib.hid hrc
                    have HS1 := Lib.hid hs1
                    have HNl7 := Lib.hid hnl7
                    have hvec := fun W => vec_any vl W hz7
                    generalize hVK : vOk vl = vk at hvec
                    have HV := Lib.hid hvec
                    have HVK := Lib.hid hVK
                    have hkl : k < nw.length := by rw [hnl7]; exact hkn
                    clear hstv hR7 hX7 hg0 hg1 hvec hVK hz7 hb1' hnl7
                    go_cut [142] (fun s142 wx => ∃ b : Bool, s142 = .bool b ∧ Hid (valB x i = !b) ∧ Hid (Below wc.heap.size wc wx))
                    case first =>
                      have f1 : ∀ p : BelowBy wc, p.W.cell? ⟨w.heap.size, 1, none⟩ = some (.slice (some ⟨b1, o1, none⟩) x.nm.length c1) := fun p => p.cell ((HBc.out.cell (p := ⟨w.heap.size, 1, none⟩) (World.block_lt_of_cell? W5 _ ((HB15.out.cell (p := ⟨w.heap.size, 1, none⟩) (World.block_lt_of_cell? w1 _ HC1.out)).trans HC1.out))).trans ((HB15.out.cell (p := ⟨w.heap.size, 1, none⟩) (World.block_lt_of_cell? w1 _ HC1.out)).trans HC1.out))
                      have e1 : ∀ p : BelowBy wc, p.W.cell? ⟨wr.heap.size, 1, none⟩ = some (.int .i64 k) := fun p => p.cell ((HBc.out.cell (p := ⟨wr.heap.size, 1, none⟩) (World.block_lt_of_cell? W5 _ HQ1.out)).trans HQ1.out)
                      have e2 : ∀ p : BelowBy wc, p.W.cell? ⟨wr.heap.size, 2, none⟩ = some (.string vl) := fun p => p.cell ((HBc.out.cell (p := ⟨wr.heap.size, 2, none⟩) (World.block_lt_of_cell? W5 _ HQ2.out)).trans HQ2.out)
                      have e3 : ∀ p : BelowBy wc, p.W.cell? ⟨b1, o1 + k, none⟩ = some (.int .i64 wk) := fun p => p.cell hs1
                      have e4 : ∀ p : BelowBy wc, p.W.cell? ⟨g, k, none⟩ = some (.string st) := fun p => p.cell hrc.1
                      clear hs1 hrc
                      cases vk with
                      | false =>
                        refine region_below (by kernel_rfl) (by kernel_rfl) ?_
                        repeat (quiet_step (with_reducible first | exact call_below _ (HV.out _) | fail))
                        refine wpQuiet_nil ?_
                        rintro _ ⟨p, rfl⟩
                        go_wp2_with fail
                        go_meet
                        exact ⟨true, rfl, Lib.hid (by rw [HVl.out, HVK.out]; rfl), Lib.hid p.h⟩
                      | true =>
                        by_cases h2 : ((vl.size : Int)) = wk
                        · have d2 : ((vl.size : Int) != wk) = false := by rw [h2]; exact bne_self_eq_false _
                          have H2 := Lib.hid h2
                          clear h2
                          cases hse : (vl.toList == st.toList) with
                          | false =>
                            have HSe := Lib.hid hse
                            refine region_below (by kernel_rfl) (by kernel_rfl) ?_
                            repeat (quiet_step (with_reducible first | exact call_below _ (HV.out _) | fail))
                            refine wpQuiet_nil ?_
                            rintro _ ⟨p, rfl⟩
                            go_wp2_with fail
                            go_meet
                            exact ⟨false, rfl, Lib.hid (by rw [HVl.out, HVK.out]; rw [decide_eq_true H2.out, HSe.out]; rfl), Lib.hid p.h⟩
                          | true =>
                            have HSe := Lib.hid hse
                            refine region_below (by kernel_rfl) (by kernel_rfl) ?_
                            repeat (quiet_step (with_reducible first | exact call_below _ (HV.out _) | fail))
                            refine wpQuiet_nil ?_
                            rintro _ ⟨p, rfl⟩
                            go_wp2_with fail
                            go_meet
                            exact ⟨true, rfl, Lib.hid (by rw [HVl.out, HVK.out]; rw [decide_eq_true H2.out, HSe.out]; rfl), Lib.hid p.h⟩
                        · have d2 : ((vl.size : Int) != wk) = true := by rw [bne_iff_ne]; exact h2
                          have H2 := Lib.hid h2
                          clear h2
                          refine region_below (by kernel_rfl) (by kernel_rfl) ?_
                          repeat (quiet_step (with_reducible first | exact call_below _ (HV.out _) | fail))
                          refine wpQuiet_nil ?_
                          rintro _ ⟨p, rfl⟩
                          go_wp2_with fail
                          go_meet
                          exact ⟨true, rfl, Lib.hid (by rw [HVl.out, HVK.out]; rw [decide_eq_false H2.out]; rfl), Lib.hid p.h⟩
                    case rest =>
                      obtain ⟨vb, rfl, HVb, HBd⟩ := hcut
                      cases vb with
                      | true =>
                        obtain rfl : ans = 1 := by rw [← HAns.out, HFail.out (by rw [HVb.out, HPb.out]; rfl)]; rfl
                        clear HFail HAns HPb HPl HVb HVl
                        go_wp2_with fail
                        go_ret
                        exact ⟨rfl, HB1.out.trans ((HB15.out.trans ((HBc.out.trans (HBd.out.mono HBc.out.size)).mono HB15.out.size)).mono HB1.out.size)⟩
                      | false =>
                        have hBd := HBd.out
                        have e1 := (hBd.cell (p := ⟨wr.heap.size, 1, none⟩) (World.block_lt_of_cell? _ _ ((HBc.out.cell (p := ⟨wr.heap.size, 1, none⟩) (World.block_lt_of_cell? W5 _ HQ1.out)).trans HQ1.out))).trans ((HBc.out.cell (p := ⟨wr.heap.size, 1, none⟩) (World.block_lt_of_cell? W5 _ HQ1.out)).trans HQ1.out)
                        have e2 := (hBd.cell (p := ⟨wr.heap.size, 2, none⟩) (World.block_lt_of_cell? _ _ ((HBc.out.cell (p := ⟨wr.heap.size, 2, none⟩) (World.block_lt_of_cell? W5 _ HQ2.out)).trans HQ2.out))).trans ((HBc.out.cell (p := ⟨wr.heap.size, 2, none⟩) (World.block_lt_of_cell? W5 _ HQ2.out)).trans HQ2.out)
                        have e4 := (hBd.cell (p := ⟨g, k, none⟩) HG1.out).trans HRC.out.1
                        have e5 := (hBd.frozen (p := ⟨g, k, none⟩) HG1.out).trans HRC.out.2
                        have hR8 := Kd.R_below HR7.out hBd
                        have hp := (Kd.R_put (enc := Value.string) (h1 := fun _ => rfl) hR8 (k : Int) vl).1
                        rw [Int.toNat_natCast, ← HN2.out] at hp
                        have HP := Lib.hid hp
                        have HBe := Lib.hid (HB15.out.trans ((HBc.out.trans (hBd.mono HBc.out.size)).mono HB15.out.size))
                        have hbi : x.li.length * 32 ≤ 140737488355328 := HX7.out.b3
                        clear hBd hR8 hp
                        go_wp2_with fail
                        refine ⟨⟨i + 1, by simp, hlt, Lib.hid (fun j hj => ?_), Lib.hid (HBe.out.setCell HG0.out _), Lib.hid HP.out⟩, by simp [intOf]; omega⟩
                        rcases Nat.lt_or_ge j i with h | h
                        · exact HO.out j h
                        · rw [show j = i from by omega]
                          exact ⟨HPb.out, HVb.out⟩
              · obtain rfl : i = x.li.length := by omega
                clear hi
                obtain rfl : ans = 0 := by
                  have h1 : mayB x = true := by
                    unfold mayB sizesB
                    rw [Bool.and_eq_true, Bool.and_eq_true, Bool.and_eq_true, Bool.and_eq_true]
                    refine ⟨⟨decide_eq_true hn, decide_eq_true HW.out, decide_eq_true HF.out⟩, List.all_eq_true.2 fun j hj => HN.out j (List.mem_range.1 hj), List.all_eq_true.2 fun j hj => ?_⟩
                    have := HO.out j (List.mem_range.1 hj)
                    rw [this.1, this.2]
                    rfl
                  rw [← HAns.out, h1]
                  rfl
                go_wp2_with fail
                go_ret
                exact ⟨rfl, HB1.out.trans (HBx.out.mono HB1.out.size)⟩
      · have h1 : mayB x = false := by simp [mayB, sizesB, hf]
        obtain rfl : ans = 1 := by rw [← HAns.out, h1]; rfl
        have g1 : decide ((x.nm.length : Int) > 4096) = false := by rw [decide_eq_false_iff_not]; omega
        have g2 : ((x.fi.length : Int) != (x.nm.length : Int)) = true := by rw [bne_iff_ne]; omega
        clear h1 HAns HI
        go_enter Tryd.func16, Tryd.ntmps16
        go_wp2_with fail
        go_ret
        exact ⟨rfl, below_alloc (Below.refl _ _) _⟩
    · have h1 : mayB x = false := by simp [mayB, sizesB, hw]
      obtain rfl : ans = 1 := by rw [← HAns.out, h1]; rfl
      have g1 : decide ((x.nm.length : Int) > 4096) = false := by rw [decide_eq_false_iff_not]; omega
      have g2 : ((x.wd.length : Int) != (x.nm.length : Int)) = true := by rw [bne_iff_ne]; omega
      clear h1 HAns HI
      go_enter Tryd.func16, Tryd.ntmps16
      go_wp2_with fail
      go_ret
      exact ⟨rfl, below_alloc (Below.refl _ _) _⟩
  · have h1 : mayB x = false := by simp [mayB, sizesB, hn]
    obtain rfl : ans = 1 := by rw [← HAns.out, h1]; rfl
    have g1 : decide ((x.nm.length : Int) > 4096) = true := by rw [decide_eq_true_iff]; omega
    clear h1 HAns HI
    go_enter Tryd.func16, Tryd.ntmps16
    go_wp2_with fail
    go_ret
    exact ⟨rfl, below_alloc (Below.refl _ _) _⟩
end Go.Proofs.YtcbkgammlfjjoaaDoor
