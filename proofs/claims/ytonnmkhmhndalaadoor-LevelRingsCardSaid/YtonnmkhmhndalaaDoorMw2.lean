/- How wide an operator's answer is, as the document has it, walked. -/
import Derived.Test.YtonnmkhmhndalaaDoorMw1
namespace Go.Proofs.YtonnmkhmhndalaaDoor
set_option linter.unusedVariables false
set_option linter.unusedSimpArgs false
open Go.RowKit Go.Proofs.YtonnmkhmhndalaaDoorW.PrintWords Go.Proofs.YtonnmkhmhndalaaDoorW.PrintLast Go.Proofs.YtonnmkhmhndalaaDoorW.PrintMore

/-- how wide an operator's answer is, as the document has it; -1: it may not be -/
def opR (op hi lo : Int) (ws : List Int) : Int :=
  if op = 7 ∨ op = 9 then (if ws.length = 1 then ws.getD 0 0 else -1)
  else if op = 8 ∨ op = 10 ∨ op = 11 ∨ op = 12 then (if ws.length = 1 then 1 else -1)
  else if op = 13 ∨ op = 14 ∨ op = 23 ∨ op = 25 ∨ op = 24 then (if ws.length = 2 ∧ ws.getD 0 0 = ws.getD 1 0 then ws.getD 0 0 else -1)
  else if op = 15 ∨ op = 16 then (if ws.length = 2 then ws.getD 0 0 else -1)
  else if op = 17 ∨ op = 18 ∨ op = 19 ∨ op = 20 ∨ op = 21 ∨ op = 22 then (if ws.length = 2 ∧ ws.getD 0 0 = ws.getD 1 0 then 1 else -1)
  else if op = 26 ∨ op = 27 ∨ op = 3 then (if ws.length = 2 then 1 else -1)
  else if op = 6 then (if ws.length = 3 ∧ ws.getD 1 0 = ws.getD 2 0 then ws.getD 1 0 else -1)
  else if op = 4 then (if ws.length = 1 ∧ 0 ≤ lo ∧ lo ≤ hi ∧ hi < ws.getD 0 0 then hi - lo + 1 else -1)
  else if op = 5 then (if 1 ≤ ws.length ∧ ws.length ≤ 256 then ws.sum else -1)
  else -1
theorem opR_opW (op hi lo wd : Int) (ws : List Int) (hw : ∀ a ∈ ws, 1 ≤ a ∧ a ≤ 256) (h1 : 1 ≤ wd) (h2 : wd ≤ 256) : decide (opR op hi lo ws = wd) = decide (opW op hi lo ws = wd) := by
  have hs := sum_bd ws hw
  have key : opR op hi lo ws = opW op hi lo ws ∨ (opR op hi lo ws = -1 ∧ (opW op hi lo ws ≤ 0 ∨ 256 < opW op hi lo ws)) := by
    unfold opR opW isI
    have hop : op < 3 ∨ op = 3 ∨ op = 4 ∨ op = 5 ∨ op = 6 ∨ op = 7 ∨ op = 8 ∨ op = 9 ∨ op = 10 ∨ op = 11 ∨ op = 12 ∨ op = 13 ∨ op = 14 ∨ op = 15 ∨ op = 16 ∨ op = 17 ∨ op = 18 ∨ op = 19 ∨ op = 20 ∨ op = 21 ∨ op = 22 ∨ op = 23 ∨ op = 24 ∨ op = 25 ∨ op = 26 ∨ op = 27 ∨ 27 < op := by omega
    generalize ws.getD 0 0 = a0 at *
    generalize ws.getD 1 0 = a1 at *
    generalize ws.getD 2 0 = a2 at *
    generalize ws.sum = S at *
    generalize ws.length = N at *
    rcases hop with h | rfl | rfl | rfl | rfl | rfl | rfl | rfl | rfl | rfl | rfl | rfl | rfl | rfl | rfl | rfl | rfl | rfl | rfl | rfl | rfl | rfl | rfl | rfl | rfl | rfl | h
    case inl => right; simp [show ¬ op = 7 by omega, show ¬ op = 8 by omega, show ¬ op = 10 by omega, show ¬ op = 11 by omega, show ¬ op = 12 by omega, show ¬ op = 9 by omega, show ¬ 7 ≤ op by omega, show ¬ op = 15 by omega, show ¬ op = 16 by omega, show ¬ op = 13 by omega, show ¬ op = 14 by omega, show ¬ op = 23 by omega, show ¬ op = 24 by omega, show ¬ op = 25 by omega, show ¬ 17 ≤ op by omega, show ¬ op = 17 by omega, show ¬ op = 18 by omega, show ¬ op = 19 by omega, show ¬ op = 20 by omega, show ¬ op = 21 by omega, show ¬ op = 22 by omega, show ¬ op = 26 by omega, show ¬ op = 27 by omega, show ¬ op = 3 by omega, show ¬ op = 4 by omega, show ¬ op = 5 by omega, show ¬ op = 6 by omega]
    case inr.inr.inr.inr.inr.inr.inr.inr.inr.inr.inr.inr.inr.inr.inr.inr.inr.inr.inr.inr.inr.inr.inr.inr.inr.inr => right; simp [show ¬ op = 7 by omega, show ¬ op = 8 by omega, show ¬ op = 10 by omega, show ¬ op = 11 by omega, show ¬ op = 12 by omega, show ¬ op = 9 by omega, show ¬ op ≤ 12 by omega, show ¬ op = 15 by omega, show ¬ op = 16 by omega, show ¬ op = 13 by omega, show ¬ op = 14 by omega, show ¬ op = 23 by omega, show ¬ op = 24 by omega, show ¬ op = 25 by omega, show ¬ op ≤ 22 by omega, show ¬ op = 17 by omega, show ¬ op = 18 by omega, show ¬ op = 19 by omega, show ¬ op = 20 by omega, show ¬ op = 21 by omega, show ¬ op = 22 by omega, show ¬ op = 26 by omega, show ¬ op = 27 by omega, show ¬ op = 3 by omega, show ¬ op = 4 by omega, show ¬ op = 5 by omega, show ¬ op = 6 by omega]
    all_goals
      simp
      try first | omega | (split <;> first | omega | simp_all) | skip
  by_cases e : opR op hi lo ws = wd
  · rw [decide_eq_true e, decide_eq_true (by omega)]
  · rw [decide_eq_false e, decide_eq_false (by omega)]

theorem C_int1 {W : World} {b : Nat} {a : Int} (h : W.cell? ⟨b, 0, none⟩ = some (.int .i64 a)) : Kd.C (Kd.int .i64) W (some ⟨b, 0, none⟩) 1 [a] := by
  refine ⟨rfl, by decide, fun _ => ⟨_, rfl, fun j p hj => ?_⟩⟩
  cases j with
  | zero =>
    injection hj with hj
    subst hj
    refine ⟨_, rfl, rfl, fun i u hu => ?_⟩
    match i, hu with
    | 0, hu => injection hu with hu; subst hu; exact h
  | succ j => cases hj
set_option maxRecDepth 100000 in
set_option maxHeartbeats 4000000 in
theorem oper_any (x : NL) (A : Option Addr) (c : Nat) (B : Option Addr) (d : Nat) (y : S39) (A3 : Option Addr) (c3 : Nat) (w : World) (hI : NIn w x A c B d) (hC : Kd.C (Kd.int .i64) w A3 y.f3.length y.f3) (hc : y.f3.length ≤ c3) (hY : YOk x y) :
    Calls Tryd.prog 49 #[nlV x A c B d, ndV y A3 c3] w fun e w' => e = .returned (.int .i64 (opR y.f1 y.f5 y.f6 (wsOf x.nd y))) ∧ Below w.heap.size w w' := by
  have HI := Lib.hid hI
  have HC := Lib.hid hC
  have HY := Lib.hid hY
  obtain ⟨ws, hws⟩ : ∃ ws, wsOf x.nd y = ws := ⟨_, rfl⟩
  have hwb : ∀ a ∈ ws, 1 ≤ a ∧ a ≤ 256 := by rw [← hws]; exact hY.ws
  have hwl : ws.length = y.f3.length := by rw [← hws]; exact wsOf_len x y
  have HWs := Lib.hid hws
  have HWb := Lib.hid hwb
  have HWl := Lib.hid hwl
  rw [hws]
  clear hI hC hY hws hwb hwl
  go_enter Tryd.func49, Tryd.ntmps49
  go_upto_region 1 with fail
  obtain ⟨W0, hW0⟩ : ∃ W, w.alloc (Obj.cells #[.slice A x.nd.length c, .slice B x.nt.length d, .int .i64 x.pt] 25) = W := ⟨_, rfl⟩
  rw [hW0]
  obtain ⟨hx0, hb0, hz0⟩ := box_list hW0
  obtain ⟨W1, hW1⟩ : ∃ W, W0.alloc (Obj.cells #[Value.int IntKind.i64 y.f0, Value.int IntKind.i64 y.f1, Value.int IntKind.i64 y.f2, Value.slice A3 y.f3.length c3, Value.string y.f4, Value.int IntKind.i64 y.f5, Value.int IntKind.i64 y.f6, Value.int IntKind.i64 y.f7] 39) = W := ⟨_, rfl⟩
  rw [hW1]
  obtain ⟨hn1, hb1⟩ := box_node (Kd.C_below HC.out hb0) hW1
  have hx1 := hx0.below hb1
  rw [hz0] at hn1
  have k3 := hn1.k3
  have hz1 : W1.heap.size = w.heap.size + 2 := by rw [← hW1]; simp; omega
  have HX1 := Lib.hid hx1
  have HN1 := Lib.hid hn1
  have HB1 := Lib.hid (hb0.trans (hb1.mono (by omega)))
  have HZ0 := Lib.hid hz0
  have HZ1 := Lib.hid hz1
  clear hx0 hb0 hz0 hb1 hn1 hx1 hz1 hW0 hW1
  obtain ⟨m, hm⟩ : ∃ m, y.f3.length = m := ⟨_, rfl⟩
  have HM := Lib.hid hm
  clear hm
  go_wp2_with fail
  clear k3
  have hml : m * 8 ≤ 140737488355328 := by rw [← HM.out]; exact HY.out.l
  go_loopw [5, 6, 7] (fun v5 v6 v7 wx => ∃ i : Nat, v7 = .int .i64 i ∧ i ≤ m ∧ v6 = .int .i64 (ws.take i).sum ∧ Hid (Kd.R (Kd.int .i64) 3 wx W1.heap.size (fun _ => True) v5 (ws.take i)) ∧ Hid (Below W1.heap.size W1 wx)) (fun _ _ v7 _ => m - (intOf v7).toNat)
  case atStart => exact ⟨0, rfl, Nat.zero_le _, by rw [List.take_zero]; rfl, Lib.hid (by rw [List.take_zero]; exact Kd.R_nil _ _ _ _ _), Lib.hid (Below.refl _ _)⟩
  case round =>
    obtain ⟨i, rfl, hi, rfl, HRx, HBx⟩ := hrel
    by_cases hlt : i < m
    · have hi3 : i < y.f3.length := by rw [HM.out]; exact hlt
      have hBw : Below w.heap.size w wr := HB1.out.trans (HBx.out.mono (by have := HZ1.out; omega))
      obtain ⟨b6, o6, hA6, g6, -⟩ := ints_at (Kd.C_below HC.out hBw) i hi3
      have hmem : y.f3.getD i 0 ∈ y.f3 := by rw [List.getD_eq_getElem?_getD, List.getElem?_eq_getElem hi3]; exact List.getElem_mem _
      have hin := HY.out.i _ hmem
      obtain ⟨a, ha⟩ : ∃ a : Nat, y.f3.getD i 0 = (a : Int) := ⟨(y.f3.getD i 0).toNat, by omega⟩
      have han : a < x.nd.length := by rw [ha] at hin; omega
      rw [ha] at g6
      subst hA6
      obtain ⟨b, o, A4, c4, hA, hl4, hbs, hND⟩ := nodes_in HI.out.h0 a han
      subst hA
      have k2 := (hND _ hBw).k2
      have k3b := (HN1.out.below HBx.out).k3
      rw [HM.out] at k3b
      have q0 := (HX1.out.belowB HBx.out (by have := HZ1.out; omega)).k0
      have hii : i < ws.length := by rw [HWl.out]; exact hi3
      have htk : ws.take (i + 1) = ws.take i ++ [(x.nd.getD a z39).f2] := by
        rw [List.take_succ_eq_append_getElem hii]
        congr 2
        have e1 : ws[i] = wAt x.nd (y.f3.getD i 0) := by
          have : ws[i]? = some (wAt x.nd y.f3[i]) := by
            rw [← HWs.out]
            unfold wsOf
            rw [List.getElem?_map, List.getElem?_eq_getElem hi3]
            rfl
          rw [List.getElem?_eq_getElem hii] at this
          rw [Option.some.inj this, List.getD_eq_getElem?_getD, List.getElem?_eq_getElem hi3]
          rfl
        rw [e1, ha]
        unfold wAt
        rw [Int.toNat_natCast]
      obtain ⟨Av, cv, rfl⟩ := Kd.R_slice HRx.out
      have htl : (ws.take i).length ≤ i := List.length_take_le _ _
      have hsb := sum_bd (ws.take (i + 1)) (fun a ha => HWb.out a (List.mem_of_mem_take ha))
      have hsb0 := sum_bd (ws.take i) (fun a ha => HWb.out a (List.mem_of_mem_take ha))
      have hwsum := sum_append1 (ws.take i) (x.nd.getD a z39).f2
      rw [← htk] at hwsum
      have htl1 : (ws.take (i + 1)).length ≤ i + 1 := List.length_take_le _ _
      generalize (x.nd.getD a z39).f2 = wa at *
      have hlen1 : (ws.take i).length = i := by rw [List.length_take]; omega
      obtain ⟨wi, hwi⟩ : ∃ wi, ws.take i = wi := ⟨_, rfl⟩
      rw [hwi] at hsb0 hwsum htl htk hlen1 HRx
      rw [hwi]
      obtain ⟨S, hS⟩ : ∃ S, wi.sum = S := ⟨_, rfl⟩
      rw [hS]
      rw [hS] at hsb0 hwsum
      have hsumb : 0 ≤ S ∧ S ≤ 4503599627370496 ∧ 0 ≤ S + wa ∧ S + wa ≤ 4503599627370496 := by omega
      obtain ⟨hs1, hs2, hs3, hs4⟩ := hsumb
      have HLen := Lib.hid hlen1
      have HSum := Lib.hid hwsum
      clear hlen1 hwsum hsb hsb0 htl1 hwi hS
      have HTk := Lib.hid htk
      have HTl := Lib.hid htl
      have HMl := Lib.hid hml
      have HBw := Lib.hid hBw
      have HLt := Lib.hid hlt
      clear hmem hin ha hND hbs hl4 hii htk htl hBw hi3
      have HK3 := Lib.hid k3b
      have nz1 : ¬ w.heap.size + 1 = wr.heap.size := by have := (HBx.out.size); have := HZ1.out; omega
      have nz2 : ¬ w.heap.size = wr.heap.size := by have := (HBx.out.size); have := HZ1.out; omega
      have nb6 : ¬ b6 = wr.heap.size := Nat.ne_of_lt (World.block_lt_of_cell? wr _ g6)
      have nb7 : ¬ b = wr.heap.size := Nat.ne_of_lt (World.block_lt_of_cell? wr _ k2)
      go_upto_region 6 with fail
      go_region_law (refine Kd.R_append_rows_step (Kd.int .i64) (w0 := (wr.alloc (Obj.cells #[Value.int IntKind.i64 wa] 3)).drew) W1.heap.size rfl (.tmp 16) (.tmp 27) 23 3 (.int .i64 0) 8 rfl Tryd.underlying23 info3 rfl (by decide) (by decide) (.slice Av wi.length cv) wi [wa] (some ⟨wr.heap.size, 0, none⟩) 1 1 (fun _ => True) (fun _ => False) rfl rfl ?aO ?aR (fun _ _ h => h) (fun _ hk => hk.elim) (fun _ _ => trivial) ?aB ?aS ?aL ?_; (case aR => exact C_int1 (by simp [go_sem])); (case aO => exact Kd.R_below HRx.out (by first | exact (below_alloc (Below.refl _ _) _).drew | exact below_alloc (Below.refl _ _).drew _)); (case aB => exact Below.refl _ _); (case aS => exact Nat.le_trans HBx.out.size (by simp)); (case aL => have := HTl.out; have := HLt.out; omega); intro v1 w9 ho hb hg hat; obtain ⟨A9, c9, he9⟩ := Kd.R_slice ho; subst he9; rw [show (wi ++ [wa]).length = wi.length + 1 from by simp] at ho hat; have HO := Lib.hid ho; have HBo := Lib.hid hb; clear ho hb hg hat)
      all_goals
        obtain ⟨g9, hA9, hcs9⟩ := row_at HO.out (by simp)
        subst hA9
        have r9 := hcs9 i (by rw [List.length_append, HLen.out]; exact Nat.lt_succ_self _)
        have eg : (wi ++ [wa]).getD i 0 = wa := by
          have hl := HLen.out
          rw [List.getD_eq_getElem?_getD, ← hl, List.getElem?_append_right (Nat.le_refl _), Nat.sub_self]
          rfl
        rw [eg] at r9
        have hiw : (i : Int) < (wi.length : Int) + 1 := by have := HLen.out; omega
        clear hcs9 eg nz1 nz2 nb6 nb7 g6 k2 q0 k3b
        go_wp2_with fail
        refine ⟨⟨i + 1, by simp, HLt.out, by rw [HSum.out], by rw [HTk.out]; exact HO, Lib.hid ?_⟩, by have := HLt.out; simp [intOf]; omega⟩
        exact (HBx.out.trans (((below_alloc (Below.refl _ _) _).drew).mono HBx.out.size)).trans HBo.out
    · obtain rfl : i = m := by omega
      have hNx := HN1.out.below HBx.out
      have HNx := Lib.hid hNx
      obtain ⟨k0, k1, k2, k3, k4, k5, k6, k7, -⟩ := HNx.out
      rw [HM.out] at k3
      have hR := HRx.out
      have hti : ws.take i = ws := by rw [List.take_of_length_le (by rw [HWl.out, HM.out]; exact Nat.le_refl _)]
      rw [hti] at hR
      rw [hti]
      obtain ⟨Av, cv, rfl⟩ := Kd.R_slice hR
      have HR := Lib.hid hR
      have HBe := Lib.hid (HB1.out.trans (HBx.out.mono (show w.heap.size ≤ W1.heap.size by have := HZ1.out; omega)))
      have hsw := sum_bd ws HWb.out
      have hwl : ws.length = i := by rw [HWl.out, HM.out]
      have HWs2 := Lib.hid hsw
      clear hR hti hNx hlt hi hwl hsw k0 k2 k4 k7
      have hkk : y.f1 = 7 ∨ y.f1 = 9 ∨ y.f1 = 8 ∨ y.f1 = 10 ∨ y.f1 = 11 ∨ y.f1 = 12 ∨ y.f1 = 13 ∨ y.f1 = 14 ∨ y.f1 = 23 ∨ y.f1 = 25 ∨ y.f1 = 24 ∨ y.f1 = 15 ∨ y.f1 = 16 ∨ y.f1 = 17 ∨ y.f1 = 18 ∨ y.f1 = 19 ∨ y.f1 = 20 ∨ y.f1 = 21 ∨ y.f1 = 22 ∨ y.f1 = 26 ∨ y.f1 = 27 ∨ y.f1 = 3 ∨ y.f1 = 6 ∨ y.f1 = 4 ∨ y.f1 = 5 ∨ (y.f1 ≠ 7 ∧ y.f1 ≠ 9 ∧ y.f1 ≠ 8 ∧ y.f1 ≠ 10 ∧ y.f1 ≠ 11 ∧ y.f1 ≠ 12 ∧ y.f1 ≠ 13 ∧ y.f1 ≠ 14 ∧ y.f1 ≠ 23 ∧ y.f1 ≠ 25 ∧ y.f1 ≠ 24 ∧ y.f1 ≠ 15 ∧ y.f1 ≠ 16 ∧ y.f1 ≠ 17 ∧ y.f1 ≠ 18 ∧ y.f1 ≠ 19 ∧ y.f1 ≠ 20 ∧ y.f1 ≠ 21 ∧ y.f1 ≠ 22 ∧ y.f1 ≠ 26 ∧ y.f1 ≠ 27 ∧ y.f1 ≠ 3 ∧ y.f1 ≠ 6 ∧ y.f1 ≠ 4 ∧ y.f1 ≠ 5) := by omega
      rcases hkk with hk | hk | hk | hk | hk | hk | hk | hk | hk | hk | hk | hk | hk | hk | hk | hk | hk | hk | hk | hk | hk | hk | hk | hk | hk | hk
      · have hnr : opR y.f1 y.f5 y.f6 ws = (if ws.length = 1 then ws.getD 0 0 else -1) := by unfold opR; rw [if_pos (by omega)]
        have HNr := Lib.hid hnr
        have e7 : (y.f1 == 7) = true := by rw [hk]; rfl
        clear hk hnr
        by_cases hl : ws.length = 1
        · have l0 : ((ws.length : Int) == 1) = true := by rw [hl]; rfl
          obtain ⟨g, hA, hcs⟩ := row_at HR.out (by omega)
          subst hA
          have w0 := hcs 0 (by omega)
          clear hcs
          have HL := Lib.hid hl
          have hlI : (ws.length : Int) = 1 := by omega
          clear hl
          generalize ws.getD 0 0 = x0 at *
          go_wp2_with fail
          go_ret
          exact ⟨by rw [HNr.out, if_pos HL.out]; try rfl, HBe.out⟩
        · have l0 : ((ws.length : Int) == 1) = false := beq_eq_false_iff_ne.mpr (by omega)
          have HL := Lib.hid hl
          clear hl
          go_wp2_with fail
          go_ret
          exact ⟨by rw [HNr.out, if_neg HL.out]; try rfl, HBe.out⟩
      · have hnr : opR y.f1 y.f5 y.f6 ws = (if ws.length = 1 then ws.getD 0 0 else -1) := by unfold opR; rw [if_pos (by omega)]
        have HNr := Lib.hid hnr
        have e7 : (y.f1 == 7) = false := by rw [hk]; rfl
        have e9 : (y.f1 == 9) = true := by rw [hk]; rfl
        clear hk hnr
        by_cases hl : ws.length = 1
        · have l0 : ((ws.length : Int) == 1) = true := by rw [hl]; rfl
          obtain ⟨g, hA, hcs⟩ := row_at HR.out (by omega)
          subst hA
          have w0 := hcs 0 (by omega)
          clear hcs
          have HL := Lib.hid hl
          have hlI : (ws.length : Int) = 1 := by omega
          clear hl
          generalize ws.getD 0 0 = x0 at *
          go_wp2_with fail
          go_ret
          exact ⟨by rw [HNr.out, if_pos HL.out]; try rfl, HBe.out⟩
        · have l0 : ((ws.length : Int) == 1) = false := beq_eq_false_iff_ne.mpr (by omega)
          have HL := Lib.hid hl
          clear hl
          go_wp2_with fail
          go_ret
          exact ⟨by rw [HNr.out, if_neg HL.out]; try rfl, HBe.out⟩
      · have hnr : opR y.f1 y.f5 y.f6 ws = (if ws.length = 1 then 1 else -1) := by unfold opR; rw [if_neg (by omega), if_pos (by omega)]
        have HNr := Lib.hid hnr
        have e7 : (y.f1 == 7) = false := by rw [hk]; rfl
        have e9 : (y.f1 == 9) = false := by rw [hk]; rfl
        have e8 : (y.f1 == 8) = true := by rw [hk]; rfl
        clear hk hnr
        by_cases hl : ws.length = 1
        · have l0 : ((ws.length : Int) == 1) = true := by rw [hl]; rfl
          have HL := Lib.hid hl
          have hlI : (ws.length : Int) = 1 := by omega
          clear hl
          go_wp2_with fail
          go_ret
          exact ⟨by rw [HNr.out, if_pos HL.out]; try rfl, HBe.out⟩
        · have l0 : ((ws.length : Int) == 1) = false := beq_eq_false_iff_ne.mpr (by omega)
          have HL := Lib.hid hl
          clear hl
          go_wp2_with fail
          go_ret
          exact ⟨by rw [HNr.out, if_neg HL.out]; try rfl, HBe.out⟩
      · have hnr : opR y.f1 y.f5 y.f6 ws = (if ws.length = 1 then 1 else -1) := by unfold opR; rw [if_neg (by omega), if_pos (by omega)]
        have HNr := Lib.hid hnr
        have e7 : (y.f1 == 7) = false := by rw [hk]; rfl
        have e9 : (y.f1 == 9) = false := by rw [hk]; rfl
        have e8 : (y.f1 == 8) = false := by rw [hk]; rfl
        have e10 : (y.f1 == 10) = true := by rw [hk]; rfl
        clear hk hnr
        by_cases hl : ws.length = 1
        · have l0 : ((ws.length : Int) == 1) = true := by rw [hl]; rfl
          have HL := Lib.hid hl
          have hlI : (ws.length : Int) = 1 := by omega
          clear hl
          go_wp2_with fail
          go_ret
          exact ⟨by rw [HNr.out, if_pos HL.out]; try rfl, HBe.out⟩
        · have l0 : ((ws.length : Int) == 1) = false := beq_eq_false_iff_ne.mpr (by omega)
          have HL := Lib.hid hl
          clear hl
          go_wp2_with fail
          go_ret
          exact ⟨by rw [HNr.out, if_neg HL.out]; try rfl, HBe.out⟩
      · have hnr : opR y.f1 y.f5 y.f6 ws = (if ws.length = 1 then 1 else -1) := by unfold opR; rw [if_neg (by omega), if_pos (by omega)]
        have HNr := Lib.hid hnr
        have e7 : (y.f1 == 7) = false := by rw [hk]; rfl
        have e9 : (y.f1 == 9) = false := by rw [hk]; rfl
        have e8 : (y.f1 == 8) = false := by rw [hk]; rfl
        have e10 : (y.f1 == 10) = false := by rw [hk]; rfl
        have e11 : (y.f1 == 11) = true := by rw [hk]; rfl
        clear hk hnr
        by_cases hl : ws.length = 1
        · have l0 : ((ws.length : Int) == 1) = true := by rw [hl]; rfl
          have HL := Lib.hid hl
          have hlI : (ws.length : Int) = 1 := by omega
          clear hl
          go_wp2_with fail
          go_ret
          exact ⟨by rw [HNr.out, if_pos HL.out]; try rfl, HBe.out⟩
        · have l0 : ((ws.length : Int) == 1) = false := beq_eq_false_iff_ne.mpr (by omega)
          have HL := Lib.hid hl
          clear hl
          go_wp2_with fail
          go_ret
          exact ⟨by rw [HNr.out, if_neg HL.out]; try rfl, HBe.out⟩
      · have hnr : opR y.f1 y.f5 y.f6 ws = (if ws.length = 1 then 1 else -1) := by unfold opR; rw [if_neg (by omega), if_pos (by omega)]
        have HNr := Lib.hid hnr
        have e7 : (y.f1 == 7) = false := by rw [hk]; rfl
        have e9 : (y.f1 == 9) = false := by rw [hk]; rfl
        have e8 : (y.f1 == 8) = false := by rw [hk]; rfl
        have e10 : (y.f1 == 10) = false := by rw [hk]; rfl
        have e11 : (y.f1 == 11) = false := by rw [hk]; rfl
        have e12 : (y.f1 == 12) = true := by rw [hk]; rfl
        clear hk hnr
        by_cases hl : ws.length = 1
        · have l0 : ((ws.length : Int) == 1) = true := by rw [hl]; rfl
          have HL := Lib.hid hl
          have hlI : (ws.length : Int) = 1 := by omega
          clear hl
          go_wp2_with fail
          go_ret
          exact ⟨by rw [HNr.out, if_pos HL.out]; try rfl, HBe.out⟩
        · have l0 : ((ws.length : Int) == 1) = false := beq_eq_false_iff_ne.mpr (by omega)
          have HL := Lib.hid hl
          clear hl
          go_wp2_with fail
          go_ret
          exact ⟨by rw [HNr.out, if_neg HL.out]; try rfl, HBe.out⟩
      · have hnr : opR y.f1 y.f5 y.f6 ws = (if ws.length = 2 ∧ ws.getD 0 0 = ws.getD 1 0 then ws.getD 0 0 else -1) := by unfold opR; rw [if_neg (by omega), if_neg (by omega), if_pos (by omega)]
        have HNr := Lib.hid hnr
        have e7 : (y.f1 == 7) = false := by rw [hk]; rfl
        have e9 : (y.f1 == 9) = false := by rw [hk]; rfl
        have e8 : (y.f1 == 8) = false := by rw [hk]; rfl
        have e10 : (y.f1 == 10) = false := by rw [hk]; rfl
        have e11 : (y.f1 == 11) = false := by rw [hk]; rfl
        have e12 : (y.f1 == 12) = false := by rw [hk]; rfl
        have e13 : (y.f1 == 13) = true := by rw [hk]; rfl
        clear hk hnr
        by_cases hl : ws.length = 2
        · have l0 : ((ws.length : Int) == 2) = true := by rw [hl]; rfl
          obtain ⟨g, hA, hcs⟩ := row_at HR.out (by omega)
          subst hA
          have w0 := hcs 0 (by omega)
          have w1 := hcs 1 (by omega)
          clear hcs
          have HL := Lib.hid hl
          have hlI : (ws.length : Int) = 2 := by omega
          clear hl
          generalize ws.getD 0 0 = x0 at *
          generalize ws.getD 1 0 = x1 at *
          by_cases ce : x0 = x1
          · have d1 : (x0 == x1) = true := beq_iff_eq.mpr ce
            have CE := Lib.hid ce
            clear ce
            go_upto_region 25 with fail
            go_region
            go_wp2_with fail
            go_ret
            exact ⟨by rw [HNr.out, if_pos ⟨HL.out, CE.out⟩]; try rfl, HBe.out.drew⟩
          · have d1 : (x0 == x1) = false := beq_eq_false_iff_ne.mpr ce
            have CE := Lib.hid ce
            clear ce
            go_upto_region 25 with fail
            go_region
            go_wp2_with fail
            go_ret
            exact ⟨by rw [HNr.out, if_neg (fun h => CE.out h.2)]; try rfl, HBe.out.drew⟩
        · have l0 : ((ws.length : Int) == 2) = false := beq_eq_false_iff_ne.mpr (by omega)
          have HL := Lib.hid hl
          clear hl
          go_upto_region 25 with fail
          go_region
          go_wp2_with fail
          go_ret
          exact ⟨by rw [HNr.out, if_neg (fun h => HL.out h.1)]; try rfl, HBe.out.drew⟩
      · have hnr : opR y.f1 y.f5 y.f6 ws = (if ws.length = 2 ∧ ws.getD 0 0 = ws.getD 1 0 then ws.getD 0 0 else -1) := by unfold opR; rw [if_neg (by omega), if_neg (by omega), if_pos (by omega)]
        have HNr := Lib.hid hnr
        have e7 : (y.f1 == 7) = false := by rw [hk]; rfl
        have e9 : (y.f1 == 9) = false := by rw [hk]; rfl
        have e8 : (y.f1 == 8) = false := by rw [hk]; rfl
        have e10 : (y.f1 == 10) = false := by rw [hk]; rfl
        have e11 : (y.f1 == 11) = false := by rw [hk]; rfl
        have e12 : (y.f1 == 12) = false := by rw [hk]; rfl
        have e13 : (y.f1 == 13) = false := by rw [hk]; rfl
        have e14 : (y.f1 == 14) = true := by rw [hk]; rfl
        clear hk hnr
        by_cases hl : ws.length = 2
        · have l0 : ((ws.length : Int) == 2) = true := by rw [hl]; rfl
          obtain ⟨g, hA, hcs⟩ := row_at HR.out (by omega)
          subst hA
          have w0 := hcs 0 (by omega)
          have w1 := hcs 1 (by omega)
          clear hcs
          have HL := Lib.hid hl
          have hlI : (ws.length : Int) = 2 := by omega
          clear hl
          generalize ws.getD 0 0 = x0 at *
          generalize ws.getD 1 0 = x1 at *
          by_cases ce : x0 = x1
          · have d1 : (x0 == x1) = true := beq_iff_eq.mpr ce
            have CE := Lib.hid ce
            clear ce
            go_upto_region 25 with fail
            go_region
            go_wp2_with fail
            go_ret
            exact ⟨by rw [HNr.out, if_pos ⟨HL.out, CE.out⟩]; try rfl, HBe.out.drew⟩
          · have d1 : (x0 == x1) = false := beq_eq_false_iff_ne.mpr ce
            have CE := Lib.hid ce
            clear ce
            go_upto_region 25 with fail
            go_region
            go_wp2_with fail
            go_ret
            exact ⟨by rw [HNr.out, if_neg (fun h => CE.out h.2)]; try rfl, HBe.out.drew⟩
        · have l0 : ((ws.length : Int) == 2) = false := beq_eq_false_iff_ne.mpr (by omega)
          have HL := Lib.hid hl
          clear hl
          go_upto_region 25 with fail
          go_region
          go_wp2_with fail
          go_ret
          exact ⟨by rw [HNr.out, if_neg (fun h => HL.out h.1)]; try rfl, HBe.out.drew⟩
      · have hnr : opR y.f1 y.f5 y.f6 ws = (if ws.length = 2 ∧ ws.getD 0 0 = ws.getD 1 0 then ws.getD 0 0 else -1) := by unfold opR; rw [if_neg (by omega), if_neg (by omega), if_pos (by omega)]
        have HNr := Lib.hid hnr
        have e7 : (y.f1 == 7) = false := by rw [hk]; rfl
        have e9 : (y.f1 == 9) = false := by rw [hk]; rfl
        have e8 : (y.f1 == 8) = false := by rw [hk]; rfl
        have e10 : (y.f1 == 10) = false := by rw [hk]; rfl
        have e11 : (y.f1 == 11) = false := by rw [hk]; rfl
        have e12 : (y.f1 == 12) = false := by rw [hk]; rfl
        have e13 : (y.f1 == 13) = false := by rw [hk]; rfl
        have e14 : (y.f1 == 14) = false := by rw [hk]; rfl
        have e23 : (y.f1 == 23) = true := by rw [hk]; rfl
        clear hk hnr
        by_cases hl : ws.length = 2
        · have l0 : ((ws.length : Int) == 2) = true := by rw [hl]; rfl
          obtain ⟨g, hA, hcs⟩ := row_at HR.out (by omega)
          subst hA
          have w0 := hcs 0 (by omega)
          have w1 := hcs 1 (by omega)
          clear hcs
          have HL := Lib.hid hl
          have hlI : (ws.length : Int) = 2 := by omega
          clear hl
          generalize ws.getD 0 0 = x0 at *
          generalize ws.getD 1 0 = x1 at *
          by_cases ce : x0 = x1
          · have d1 : (x0 == x1) = true := beq_iff_eq.mpr ce
            have CE := Lib.hid ce
            clear ce
            go_upto_region 25 with fail
            go_region
            go_wp2_with fail
            go_ret
            exact ⟨by rw [HNr.out, if_pos ⟨HL.out, CE.out⟩]; try rfl, HBe.out.drew⟩
          · have d1 : (x0 == x1) = false := beq_eq_false_iff_ne.mpr ce
            have CE := Lib.hid ce
            clear ce
            go_upto_region 25 with fail
            go_region
            go_wp2_with fail
            go_ret
            exact ⟨by rw [HNr.out, if_neg (fun h => CE.out h.2)]; try rfl, HBe.out.drew⟩
        · have l0 : ((ws.length : Int) == 2) = false := beq_eq_false_iff_ne.mpr (by omega)
          have HL := Lib.hid hl
          clear hl
          go_upto_region 25 with fail
          go_region
          go_wp2_with fail
          go_ret
          exact ⟨by rw [HNr.out, if_neg (fun h => HL.out h.1)]; try rfl, HBe.out.drew⟩
      · have hnr : opR y.f1 y.f5 y.f6 ws = (if ws.length = 2 ∧ ws.getD 0 0 = ws.getD 1 0 then ws.getD 0 0 else -1) := by unfold opR; rw [if_neg (by omega), if_neg (by omega), if_pos (by omega)]
        have HNr := Lib.hid hnr
        have e7 : (y.f1 == 7) = false := by rw [hk]; rfl
        have e9 : (y.f1 == 9) = false := by rw [hk]; rfl
        have e8 : (y.f1 == 8) = false := by rw [hk]; rfl
        have e10 : (y.f1 == 10) = false := by rw [hk]; rfl
        have e11 : (y.f1 == 11) = false := by rw [hk]; rfl
        have e12 : (y.f1 == 12) = false := by rw [hk]; rfl
        have e13 : (y.f1 == 13) = false := by rw [hk]; rfl
        have e14 : (y.f1 == 14) = false := by rw [hk]; rfl
        have e23 : (y.f1 == 23) = false := by rw [hk]; rfl
        have e25 : (y.f1 == 25) = true := by rw [hk]; rfl
        clear hk hnr
        by_cases hl : ws.length = 2
        · have l0 : ((ws.length : Int) == 2) = true := by rw [hl]; rfl
          obtain ⟨g, hA, hcs⟩ := row_at HR.out (by omega)
          subst hA
          have w0 := hcs 0 (by omega)
          have w1 := hcs 1 (by omega)
          clear hcs
          have HL := Lib.hid hl
          have hlI : (ws.length : Int) = 2 := by omega
          clear hl
          generalize ws.getD 0 0 = x0 at *
          generalize ws.getD 1 0 = x1 at *
          by_cases ce : x0 = x1
          · have d1 : (x0 == x1) = true := beq_iff_eq.mpr ce
            have CE := Lib.hid ce
            clear ce
            go_upto_region 25 with fail
            go_region
            go_wp2_with fail
            go_ret
            exact ⟨by rw [HNr.out, if_pos ⟨HL.out, CE.out⟩]; try rfl, HBe.out.drew⟩
          · have d1 : (x0 == x1) = false := beq_eq_false_iff_ne.mpr ce
            have CE := Lib.hid ce
            clear ce
            go_upto_region 25 with fail
            go_region
            go_wp2_with fail
            go_ret
            exact ⟨by rw [HNr.out, if_neg (fun h => CE.out h.2)]; try rfl, HBe.out.drew⟩
        · have l0 : ((ws.length : Int) == 2) = false := beq_eq_false_iff_ne.mpr (by omega)
          have HL := Lib.hid hl
          clear hl
          go_upto_region 25 with fail
          go_region
          go_wp2_with fail
          go_ret
          exact ⟨by rw [HNr.out, if_neg (fun h => HL.out h.1)]; try rfl, HBe.out.drew⟩
      · have hnr : opR y.f1 y.f5 y.f6 ws = (if ws.length = 2 ∧ ws.getD 0 0 = ws.getD 1 0 then ws.getD 0 0 else -1) := by unfold opR; rw [if_neg (by omega), if_neg (by omega), if_pos (by omega)]
        have HNr := Lib.hid hnr
        have e7 : (y.f1 == 7) = false := by rw [hk]; rfl
        have e9 : (y.f1 == 9) = false := by rw [hk]; rfl
        have e8 : (y.f1 == 8) = false := by rw [hk]; rfl
        have e10 : (y.f1 == 10) = false := by rw [hk]; rfl
        have e11 : (y.f1 == 11) = false := by rw [hk]; rfl
        have e12 : (y.f1 == 12) = false := by rw [hk]; rfl
        have e13 : (y.f1 == 13) = false := by rw [hk]; rfl
        have e14 : (y.f1 == 14) = false := by rw [hk]; rfl
        have e23 : (y.f1 == 23) = false := by rw [hk]; rfl
        have e25 : (y.f1 == 25) = false := by rw [hk]; rfl
        have e24 : (y.f1 == 24) = true := by rw [hk]; rfl
        clear hk hnr
        by_cases hl : ws.length = 2
        · have l0 : ((ws.length : Int) == 2) = true := by rw [hl]; rfl
          obtain ⟨g, hA, hcs⟩ := row_at HR.out (by omega)
          subst hA
          have w0 := hcs 0 (by omega)
          have w1 := hcs 1 (by omega)
          clear hcs
          have HL := Lib.hid hl
          have hlI : (ws.length : Int) = 2 := by omega
          clear hl
          generalize ws.getD 0 0 = x0 at *
          generalize ws.getD 1 0 = x1 at *
          by_cases ce : x0 = x1
          · have d1 : (x0 == x1) = true := beq_iff_eq.mpr ce
            have CE := Lib.hid ce
            clear ce
            go_upto_region 25 with fail
            go_region
            go_wp2_with fail
            go_ret
            exact ⟨by rw [HNr.out, if_pos ⟨HL.out, CE.out⟩]; try rfl, HBe.out.drew⟩
          · have d1 : (x0 == x1) = false := beq_eq_false_iff_ne.mpr ce
            have CE := Lib.hid ce
            clear ce
            go_upto_region 25 with fail
            go_region
            go_wp2_with fail
            go_ret
            exact ⟨by rw [HNr.out, if_neg (fun h => CE.out h.2)]; try rfl, HBe.out.drew⟩
        · have l0 : ((ws.length : Int) == 2) = false := beq_eq_false_iff_ne.mpr (by omega)
          have HL := Lib.hid hl
          clear hl
          go_upto_region 25 with fail
          go_region
          go_wp2_with fail
          go_ret
          exact ⟨by rw [HNr.out, if_neg (fun h => HL.out h.1)]; try rfl, HBe.out.drew⟩
      · have hnr : opR y.f1 y.f5 y.f6 ws = (if ws.length = 2 then ws.getD 0 0 else -1) := by unfold opR; rw [if_neg (by omega), if_neg (by omega), if_neg (by omega), if_pos (by omega)]
        have HNr := Lib.hid hnr
        have e7 : (y.f1 == 7) = false := by rw [hk]; rfl
        have e9 : (y.f1 == 9) = false := by rw [hk]; rfl
        have e8 : (y.f1 == 8) = false := by rw [hk]; rfl
        have e10 : (y.f1 == 10) = false := by rw [hk]; rfl
        have e11 : (y.f1 == 11) = false := by rw [hk]; rfl
        have e12 : (y.f1 == 12) = false := by rw [hk]; rfl
        have e13 : (y.f1 == 13) = false := by rw [hk]; rfl
        have e14 : (y.f1 == 14) = false := by rw [hk]; rfl
        have e23 : (y.f1 == 23) = false := by rw [hk]; rfl
        have e25 : (y.f1 == 25) = false := by rw [hk]; rfl
        have e24 : (y.f1 == 24) = false := by rw [hk]; rfl
        have e15 : (y.f1 == 15) = true := by rw [hk]; rfl
        clear hk hnr
        by_cases hl : ws.length = 2
        · have l0 : ((ws.length : Int) == 2) = true := by rw [hl]; rfl
          obtain ⟨g, hA, hcs⟩ := row_at HR.out (by omega)
          subst hA
          have w0 := hcs 0 (by omega)
          clear hcs
          have HL := Lib.hid hl
          have hlI : (ws.length : Int) = 2 := by omega
          clear hl
          generalize ws.getD 0 0 = x0 at *
          go_wp2_with fail
          go_ret
          exact ⟨by rw [HNr.out, if_pos HL.out]; try rfl, HBe.out⟩
        · have l0 : ((ws.length : Int) == 2) = false := beq_eq_false_iff_ne.mpr (by omega)
          have HL := Lib.hid hl
          clear hl
          go_wp2_with fail
          go_ret
          exact ⟨by rw [HNr.out, if_neg HL.out]; try rfl, HBe.out⟩
      · have hnr : opR y.f1 y.f5 y.f6 ws = (if ws.length = 2 then ws.getD 0 0 else -1) := by unfold opR; rw [if_neg (by omega), if_neg (by omega), if_neg (by omega), if_pos (by omega)]
        have HNr := Lib.hid hnr
        have e7 : (y.f1 == 7) = false := by rw [hk]; rfl
        have e9 : (y.f1 == 9) = false := by rw [hk]; rfl
        have e8 : (y.f1 == 8) = false := by rw [hk]; rfl
        have e10 : (y.f1 == 10) = false := by rw [hk]; rfl
        have e11 : (y.f1 == 11) = false := by rw [hk]; rfl
        have e12 : (y.f1 == 12) = false := by rw [hk]; rfl
        have e13 : (y.f1 == 13) = false := by rw [hk]; rfl
        have e14 : (y.f1 == 14) = false := by rw [hk]; rfl
        have e23 : (y.f1 == 23) = false := by rw [hk]; rfl
        have e25 : (y.f1 == 25) = false := by rw [hk]; rfl
        have e24 : (y.f1 == 24) = false := by rw [hk]; rfl
        have e15 : (y.f1 == 15) = false := by rw [hk]; rfl
        have e16 : (y.f1 == 16) = true := by rw [hk]; rfl
        clear hk hnr
        by_cases hl : ws.length = 2
        · have l0 : ((ws.length : Int) == 2) = true := by rw [hl]; rfl
          obtain ⟨g, hA, hcs⟩ := row_at HR.out (by omega)
          subst hA
          have w0 := hcs 0 (by omega)
          clear hcs
          have HL := Lib.hid hl
          have hlI : (ws.length : Int) = 2 := by omega
          clear hl
          generalize ws.getD 0 0 = x0 at *
          go_wp2_with fail
          go_ret
          exact ⟨by rw [HNr.out, if_pos HL.out]; try rfl, HBe.out⟩
        · have l0 : ((ws.length : Int) == 2) = false := beq_eq_false_iff_ne.mpr (by omega)
          have HL := Lib.hid hl
          clear hl
          go_wp2_with fail
          go_ret
          exact ⟨by rw [HNr.out, if_neg HL.out]; try rfl, HBe.out⟩
      · have hnr : opR y.f1 y.f5 y.f6 ws = (if ws.length = 2 ∧ ws.getD 0 0 = ws.getD 1 0 then 1 else -1) := by unfold opR; rw [if_neg (by omega), if_neg (by omega), if_neg (by omega), if_neg (by omega), if_pos (by omega)]
        have HNr := Lib.hid hnr
        have e7 : (y.f1 == 7) = false := by rw [hk]; rfl
        have e9 : (y.f1 == 9) = false := by rw [hk]; rfl
        have e8 : (y.f1 == 8) = false := by rw [hk]; rfl
        have e10 : (y.f1 == 10) = false := by rw [hk]; rfl
        have e11 : (y.f1 == 11) = false := by rw [hk]; rfl
        have e12 : (y.f1 == 12) = false := by rw [hk]; rfl
        have e13 : (y.f1 == 13) = false := by rw [hk]; rfl
        have e14 : (y.f1 == 14) = false := by rw [hk]; rfl
        have e23 : (y.f1 == 23) = false := by rw [hk]; rfl
        have e25 : (y.f1 == 25) = false := by rw [hk]; rfl
        have e24 : (y.f1 == 24) = false := by rw [hk]; rfl
        have e15 : (y.f1 == 15) = false := by rw [hk]; rfl
        have e16 : (y.f1 == 16) = false := by rw [hk]; rfl
        have e17 : (y.f1 == 17) = true := by rw [hk]; rfl
        clear hk hnr
        by_cases hl : ws.length = 2
        · have l0 : ((ws.length : Int) == 2) = true := by rw [hl]; rfl
          obtain ⟨g, hA, hcs⟩ := row_at HR.out (by omega)
          subst hA
          have w0 := hcs 0 (by omega)
          have w1 := hcs 1 (by omega)
          clear hcs
          have HL := Lib.hid hl
          have hlI : (ws.length : Int) = 2 := by omega
          clear hl
          generalize ws.getD 0 0 = x0 at *
          generalize ws.getD 1 0 = x1 at *
          by_cases ce : x0 = x1
          · have d1 : (x0 == x1) = true := beq_iff_eq.mpr ce
            have CE := Lib.hid ce
            clear ce
            go_upto_region 37 with fail
            go_region
            go_wp2_with fail
            go_ret
            exact ⟨by rw [HNr.out, if_pos ⟨HL.out, CE.out⟩]; try rfl, HBe.out.drew⟩
          · have d1 : (x0 == x1) = false := beq_eq_false_iff_ne.mpr ce
            have CE := Lib.hid ce
            clear ce
            go_upto_region 37 with fail
            go_region
            go_wp2_with fail
            go_ret
            exact ⟨by rw [HNr.out, if_neg (fun h => CE.out h.2)]; try rfl, HBe.out.drew⟩
        · have l0 : ((ws.length : Int) == 2) = false := beq_eq_false_iff_ne.mpr (by omega)
          have HL := Lib.hid hl
          clear hl
          go_upto_region 37 with fail
          go_region
          go_wp2_with fail
          go_ret
          exact ⟨by rw [HNr.out, if_neg (fun h => HL.out h.1)]; try rfl, HBe.out.drew⟩
      · have hnr : opR y.f1 y.f5 y.f6 ws = (if ws.length = 2 ∧ ws.getD 0 0 = ws.getD 1 0 then 1 else -1) := by unfold opR; rw [if_neg (by omega), if_neg (by omega), if_neg (by omega), if_neg (by omega), if_pos (by omega)]
        have HNr := Lib.hid hnr
        have e7 : (y.f1 == 7) = false := by rw [hk]; rfl
        have e9 : (y.f1 == 9) = false := by rw [hk]; rfl
        have e8 : (y.f1 == 8) = false := by rw [hk]; rfl
        have e10 : (y.f1 == 10) = false := by rw [hk]; rfl
        have e11 : (y.f1 == 11) = false := by rw [hk]; rfl
        have e12 : (y.f1 == 12) = false := by rw [hk]; rfl
        have e13 : (y.f1 == 13) = false := by rw [hk]; rfl
        have e14 : (y.f1 == 14) = false := by rw [hk]; rfl
        have e23 : (y.f1 == 23) = false := by rw [hk]; rfl
        have e25 : (y.f1 == 25) = false := by rw [hk]; rfl
        have e24 : (y.f1 == 24) = false := by rw [hk]; rfl
        have e15 : (y.f1 == 15) = false := by rw [hk]; rfl
        have e16 : (y.f1 == 16) = false := by rw [hk]; rfl
        have e17 : (y.f1 == 17) = false := by rw [hk]; rfl
        have e18 : (y.f1 == 18) = true := by rw [hk]; rfl
        clear hk hnr
        by_cases hl : ws.length = 2
        · have l0 : ((ws.length : Int) == 2) = true := by rw [hl]; rfl
          obtain ⟨g, hA, hcs⟩ := row_at HR.out (by omega)
          subst hA
          have w0 := hcs 0 (by omega)
          have w1 := hcs 1 (by omega)
          clear hcs
          have HL := Lib.hid hl
          have hlI : (ws.length : Int) = 2 := by omega
          clear hl
          generalize ws.getD 0 0 = x0 at *
          generalize ws.getD 1 0 = x1 at *
          by_cases ce : x0 = x1
          · have d1 : (x0 == x1) = true := beq_iff_eq.mpr ce
            have CE := Lib.hid ce
            clear ce
            go_upto_region 37 with fail
            go_region
            go_wp2_with fail
            go_ret
            exact ⟨by rw [HNr.out, if_pos ⟨HL.out, CE.out⟩]; try rfl, HBe.out.drew⟩
          · have d1 : (x0 == x1) = false := beq_eq_false_iff_ne.mpr ce
            have CE := Lib.hid ce
            clear ce
            go_upto_region 37 with fail
            go_region
            go_wp2_with fail
            go_ret
            exact ⟨by rw [HNr.out, if_neg (fun h => CE.out h.2)]; try rfl, HBe.out.drew⟩
        · have l0 : ((ws.length : Int) == 2) = false := beq_eq_false_iff_ne.mpr (by omega)
          have HL := Lib.hid hl
          clear hl
          go_upto_region 37 with fail
          go_region
          go_wp2_with fail
          go_ret
          exact ⟨by rw [HNr.out, if_neg (fun h => HL.out h.1)]; try rfl, HBe.out.drew⟩
      · have hnr : opR y.f1 y.f5 y.f6 ws = (if ws.length = 2 ∧ ws.getD 0 0 = ws.getD 1 0 then 1 else -1) := by unfold opR; rw [if_neg (by omega), if_neg (by omega), if_neg (by omega), if_neg (by omega), if_pos (by omega)]
        have HNr := Lib.hid hnr
        have e7 : (y.f1 == 7) = false := by rw [hk]; rfl
        have e9 : (y.f1 == 9) = false := by rw [hk]; rfl
        have e8 : (y.f1 == 8) = false := by rw [hk]; rfl
        have e10 : (y.f1 == 10) = false := by rw [hk]; rfl
        have e11 : (y.f1 == 11) = false := by rw [hk]; rfl
        have e12 : (y.f1 == 12) = false := by rw [hk]; rfl
        have e13 : (y.f1 == 13) = false := by rw [hk]; rfl
        have e14 : (y.f1 == 14) = false := by rw [hk]; rfl
        have e23 : (y.f1 == 23) = false := by rw [hk]; rfl
        have e25 : (y.f1 == 25) = false := by rw [hk]; rfl
        have e24 : (y.f1 == 24) = false := by rw [hk]; rfl
        have e15 : (y.f1 == 15) = false := by rw [hk]; rfl
        have e16 : (y.f1 == 16) = false := by rw [hk]; rfl
        have e17 : (y.f1 == 17) = false := by rw [hk]; rfl
        have e18 : (y.f1 == 18) = false := by rw [hk]; rfl
        have e19 : (y.f1 == 19) = true := by rw [hk]; rfl
        clear hk hnr
        by_cases hl : ws.length = 2
        · have l0 : ((ws.length : Int) == 2) = true := by rw [hl]; rfl
          obtain ⟨g, hA, hcs⟩ := row_at HR.out (by omega)
          subst hA
          have w0 := hcs 0 (by omega)
          have w1 := hcs 1 (by omega)
          clear hcs
          have HL := Lib.hid hl
          have hlI : (ws.length : Int) = 2 := by omega
          clear hl
          generalize ws.getD 0 0 = x0 at *
          generalize ws.getD 1 0 = x1 at *
          by_cases ce : x0 = x1
          · have d1 : (x0 == x1) = true := beq_iff_eq.mpr ce
            have CE := Lib.hid ce
            clear ce
            go_upto_region 37 with fail
            go_region
            go_wp2_with fail
            go_ret
            exact ⟨by rw [HNr.out, if_pos ⟨HL.out, CE.out⟩]; try rfl, HBe.out.drew⟩
          · have d1 : (x0 == x1) = false := beq_eq_false_iff_ne.mpr ce
            have CE := Lib.hid ce
            clear ce
            go_upto_region 37 with fail
            go_region
            go_wp2_with fail
            go_ret
            exact ⟨by rw [HNr.out, if_neg (fun h => CE.out h.2)]; try rfl, HBe.out.drew⟩
        · have l0 : ((ws.length : Int) == 2) = false := beq_eq_false_iff_ne.mpr (by omega)
          have HL := Lib.hid hl
          clear hl
          go_upto_region 37 with fail
          go_region
          go_wp2_with fail
          go_ret
          exact ⟨by rw [HNr.out, if_neg (fun h => HL.out h.1)]; try rfl, HBe.out.drew⟩
      · have hnr : opR y.f1 y.f5 y.f6 ws = (if ws.length = 2 ∧ ws.getD 0 0 = ws.getD 1 0 then 1 else -1) := by unfold opR; rw [if_neg (by omega), if_neg (by omega), if_neg (by omega), if_neg (by omega), if_pos (by omega)]
        have HNr := Lib.hid hnr
        have e7 : (y.f1 == 7) = false := by rw [hk]; rfl
        have e9 : (y.f1 == 9) = false := by rw [hk]; rfl
        have e8 : (y.f1 == 8) = false := by rw [hk]; rfl
        have e10 : (y.f1 == 10) = false := by rw [hk]; rfl
        have e11 : (y.f1 == 11) = false := by rw [hk]; rfl
        have e12 : (y.f1 == 12) = false := by rw [hk]; rfl
        have e13 : (y.f1 == 13) = false := by rw [hk]; rfl
        have e14 : (y.f1 == 14) = false := by rw [hk]; rfl
        have e23 : (y.f1 == 23) = false := by rw [hk]; rfl
        have e25 : (y.f1 == 25) = false := by rw [hk]; rfl
        have e24 : (y.f1 == 24) = false := by rw [hk]; rfl
        have e15 : (y.f1 == 15) = false := by rw [hk]; rfl
        have e16 : (y.f1 == 16) = false := by rw [hk]; rfl
        have e17 : (y.f1 == 17) = false := by rw [hk]; rfl
        have e18 : (y.f1 == 18) = false := by rw [hk]; rfl
        have e19 : (y.f1 == 19) = false := by rw [hk]; rfl
        have e20 : (y.f1 == 20) = true := by rw [hk]; rfl
        clear hk hnr
        by_cases hl : ws.length = 2
        · have l0 : ((ws.length : Int) == 2) = true := by rw [hl]; rfl
          obtain ⟨g, hA, hcs⟩ := row_at HR.out (by omega)
          subst hA
          have w0 := hcs 0 (by omega)
          have w1 := hcs 1 (by omega)
          clear hcs
          have HL := Lib.hid hl
          have hlI : (ws.length : Int) = 2 := by omega
          clear hl
          generalize ws.getD 0 0 = x0 at *
          generalize ws.getD 1 0 = x1 at *
          by_cases ce : x0 = x1
          · have d1 : (x0 == x1) = true := beq_iff_eq.mpr ce
            have CE := Lib.hid ce
            clear ce
            go_upto_region 37 with fail
            go_region
            go_wp2_with fail
            go_ret
            exact ⟨by rw [HNr.out, if_pos ⟨HL.out, CE.out⟩]; try rfl, HBe.out.drew⟩
          · have d1 : (x0 == x1) = false := beq_eq_false_iff_ne.mpr ce
            have CE := Lib.hid ce
            clear ce
            go_upto_region 37 with fail
            go_region
            go_wp2_with fail
            go_ret
            exact ⟨by rw [HNr.out, if_neg (fun h => CE.out h.2)]; try rfl, HBe.out.drew⟩
        · have l0 : ((ws.length : Int) == 2) = false := beq_eq_false_iff_ne.mpr (by omega)
          have HL := Lib.hid hl
          clear hl
          go_upto_region 37 with fail
          go_region
          go_wp2_with fail
          go_ret
          exact ⟨by rw [HNr.out, if_neg (fun h => HL.out h.1)]; try rfl, HBe.out.drew⟩
      · have hnr : opR y.f1 y.f5 y.f6 ws = (if ws.length = 2 ∧ ws.getD 0 0 = ws.getD 1 0 then 1 else -1) := by unfold opR; rw [if_neg (by omega), if_neg (by omega), if_neg (by omega), if_neg (by omega), if_pos (by omega)]
        have HNr := Lib.hid hnr
        have e7 : (y.f1 == 7) = false := by rw [hk]; rfl
        have e9 : (y.f1 == 9) = false := by rw [hk]; rfl
        have e8 : (y.f1 == 8) = false := by rw [hk]; rfl
        have e10 : (y.f1 == 10) = false := by rw [hk]; rfl
        have e11 : (y.f1 == 11) = false := by rw [hk]; rfl
        have e12 : (y.f1 == 12) = false := by rw [hk]; rfl
        have e13 : (y.f1 == 13) = false := by rw [hk]; rfl
        have e14 : (y.f1 == 14) = false := by rw [hk]; rfl
        have e23 : (y.f1 == 23) = false := by rw [hk]; rfl
        have e25 : (y.f1 == 25) = false := by rw [hk]; rfl
        have e24 : (y.f1 == 24) = false := by rw [hk]; rfl
        have e15 : (y.f1 == 15) = false := by rw [hk]; rfl
        have e16 : (y.f1 == 16) = false := by rw [hk]; rfl
        have e17 : (y.f1 == 17) = false := by rw [hk]; rfl
        have e18 : (y.f1 == 18) = false := by rw [hk]; rfl
        have e19 : (y.f1 == 19) = false := by rw [hk]; rfl
        have e20 : (y.f1 == 20) = false := by rw [hk]; rfl
        have e21 : (y.f1 == 21) = true := by rw [hk]; rfl
        clear hk hnr
        by_cases hl : ws.length = 2
        · have l0 : ((ws.length : Int) == 2) = true := by rw [hl]; rfl
          obtain ⟨g, hA, hcs⟩ := row_at HR.out (by omega)
          subst hA
          have w0 := hcs 0 (by omega)
          have w1 := hcs 1 (by omega)
          clear hcs
          have HL := Lib.hid hl
          have hlI : (ws.length : Int) = 2 := by omega
          clear hl
          generalize ws.getD 0 0 = x0 at *
          generalize ws.getD 1 0 = x1 at *
          by_cases ce : x0 = x1
          · have d1 : (x0 == x1) = true := beq_iff_eq.mpr ce
            have CE := Lib.hid ce
            clear ce
            go_upto_region 37 with fail
            go_region
            go_wp2_with fail
            go_ret
            exact ⟨by rw [HNr.out, if_pos ⟨HL.out, CE.out⟩]; try rfl, HBe.out.drew⟩
          · have d1 : (x0 == x1) = false := beq_eq_false_iff_ne.mpr ce
            have CE := Lib.hid ce
            clear ce
            go_upto_region 37 with fail
            go_region
            go_wp2_with fail
            go_ret
            exact ⟨by rw [HNr.out, if_neg (fun h => CE.out h.2)]; try rfl, HBe.out.drew⟩
        · have l0 : ((ws.length : Int) == 2) = false := beq_eq_false_iff_ne.mpr (by omega)
          have HL := Lib.hid hl
          clear hl
          go_upto_region 37 with fail
          go_region
          go_wp2_with fail
          go_ret
          exact ⟨by rw [HNr.out, if_neg (fun h => HL.out h.1)]; try rfl, HBe.out.drew⟩
      · have hnr : opR y.f1 y.f5 y.f6 ws = (if ws.length = 2 ∧ ws.getD 0 0 = ws.getD 1 0 then 1 else -1) := by unfold opR; rw [if_neg (by omega), if_neg (by omega), if_neg (by omega), if_neg (by omega), if_pos (by omega)]
        have HNr := Lib.hid hnr
        have e7 : (y.f1 == 7) = false := by rw [hk]; rfl
        have e9 : (y.f1 == 9) = false := by rw [hk]; rfl
        have e8 : (y.f1 == 8) = false := by rw [hk]; rfl
        have e10 : (y.f1 == 10) = false := by rw [hk]; rfl
        have e11 : (y.f1 == 11) = false := by rw [hk]; rfl
        have e12 : (y.f1 == 12) = false := by rw [hk]; rfl
        have e13 : (y.f1 == 13) = false := by rw [hk]; rfl
        have e14 : (y.f1 == 14) = false := by rw [hk]; rfl
        have e23 : (y.f1 == 23) = false := by rw [hk]; rfl
        have e25 : (y.f1 == 25) = false := by rw [hk]; rfl
        have e24 : (y.f1 == 24) = false := by rw [hk]; rfl
        have e15 : (y.f1 == 15) = false := by rw [hk]; rfl
        have e16 : (y.f1 == 16) = false := by rw [hk]; rfl
        have e17 : (y.f1 == 17) = false := by rw [hk]; rfl
        have e18 : (y.f1 == 18) = false := by rw [hk]; rfl
        have e19 : (y.f1 == 19) = false := by rw [hk]; rfl
        have e20 : (y.f1 == 20) = false := by rw [hk]; rfl
        have e21 : (y.f1 == 21) = false := by rw [hk]; rfl
        have e22 : (y.f1 == 22) = true := by rw [hk]; rfl
        clear hk hnr
        by_cases hl : ws.length = 2
        · have l0 : ((ws.length : Int) == 2) = true := by rw [hl]; rfl
          obtain ⟨g, hA, hcs⟩ := row_at HR.out (by omega)
          subst hA
          have w0 := hcs 0 (by omega)
          have w1 := hcs 1 (by omega)
          clear hcs
          have HL := Lib.hid hl
          have hlI : (ws.length : Int) = 2 := by omega
          clear hl
          generalize ws.getD 0 0 = x0 at *
          generalize ws.getD 1 0 = x1 at *
          by_cases ce : x0 = x1
          · have d1 : (x0 == x1) = true := beq_iff_eq.mpr ce
            have CE := Lib.hid ce
            clear ce
            go_upto_region 37 with fail
            go_region
            go_wp2_with fail
            go_ret
            exact ⟨by rw [HNr.out, if_pos ⟨HL.out, CE.out⟩]; try rfl, HBe.out.drew⟩
          · have d1 : (x0 == x1) = false := beq_eq_false_iff_ne.mpr ce
            have CE := Lib.hid ce
            clear ce
            go_upto_region 37 with fail
            go_region
            go_wp2_with fail
            go_ret
            exact ⟨by rw [HNr.out, if_neg (fun h => CE.out h.2)]; try rfl, HBe.out.drew⟩
        · have l0 : ((ws.length : Int) == 2) = false := beq_eq_false_iff_ne.mpr (by omega)
          have HL := Lib.hid hl
          clear hl
          go_upto_region 37 with fail
          go_region
          go_wp2_with fail
          go_ret
          exact ⟨by rw [HNr.out, if_neg (fun h => HL.out h.1)]; try rfl, HBe.out.drew⟩
      · have hnr : opR y.f1 y.f5 y.f6 ws = (if ws.length = 2 then 1 else -1) := by unfold opR; rw [if_neg (by omega), if_neg (by omega), if_neg (by omega), if_neg (by omega), if_neg (by omega), if_pos (by omega)]
        have HNr := Lib.hid hnr
        have e7 : (y.f1 == 7) = false := by rw [hk]; rfl
        have e9 : (y.f1 == 9) = false := by rw [hk]; rfl
        have e8 : (y.f1 == 8) = false := by rw [hk]; rfl
        have e10 : (y.f1 == 10) = false := by rw [hk]; rfl
        have e11 : (y.f1 == 11) = false := by rw [hk]; rfl
        have e12 : (y.f1 == 12) = false := by rw [hk]; rfl
        have e13 : (y.f1 == 13) = false := by rw [hk]; rfl
        have e14 : (y.f1 == 14) = false := by rw [hk]; rfl
        have e23 : (y.f1 == 23) = false := by rw [hk]; rfl
        have e25 : (y.f1 == 25) = false := by rw [hk]; rfl
        have e24 : (y.f1 == 24) = false := by rw [hk]; rfl
        have e15 : (y.f1 == 15) = false := by rw [hk]; rfl
        have e16 : (y.f1 == 16) = false := by rw [hk]; rfl
        have e17 : (y.f1 == 17) = false := by rw [hk]; rfl
        have e18 : (y.f1 == 18) = false := by rw [hk]; rfl
        have e19 : (y.f1 == 19) = false := by rw [hk]; rfl
        have e20 : (y.f1 == 20) = false := by rw [hk]; rfl
        have e21 : (y.f1 == 21) = false := by rw [hk]; rfl
        have e22 : (y.f1 == 22) = false := by rw [hk]; rfl
        have e26 : (y.f1 == 26) = true := by rw [hk]; rfl
        clear hk hnr
        by_cases hl : ws.length = 2
        · have l0 : ((ws.length : Int) == 2) = true := by rw [hl]; rfl
          have HL := Lib.hid hl
          have hlI : (ws.length : Int) = 2 := by omega
          clear hl
          go_wp2_with fail
          go_ret
          exact ⟨by rw [HNr.out, if_pos HL.out]; try rfl, HBe.out⟩
        · have l0 : ((ws.length : Int) == 2) = false := beq_eq_false_iff_ne.mpr (by omega)
          have HL := Lib.hid hl
          clear hl
          go_wp2_with fail
          go_ret
          exact ⟨by rw [HNr.out, if_neg HL.out]; try rfl, HBe.out⟩
      · have hnr : opR y.f1 y.f5 y.f6 ws = (if ws.length = 2 then 1 else -1) := by unfold opR; rw [if_neg (by omega), if_neg (by omega), if_neg (by omega), if_neg (by omega), if_neg (by omega), if_pos (by omega)]
        have HNr := Lib.hid hnr
        have e7 : (y.f1 == 7) = false := by rw [hk]; rfl
        have e9 : (y.f1 == 9) = false := by rw [hk]; rfl
        have e8 : (y.f1 == 8) = false := by rw [hk]; rfl
        have e10 : (y.f1 == 10) = false := by rw [hk]; rfl
        have e11 : (y.f1 == 11) = false := by rw [hk]; rfl
        have e12 : (y.f1 == 12) = false := by rw [hk]; rfl
        have e13 : (y.f1 == 13) = false := by rw [hk]; rfl
        have e14 : (y.f1 == 14) = false := by rw [hk]; rfl
        have e23 : (y.f1 == 23) = false := by rw [hk]; rfl
        have e25 : (y.f1 == 25) = false := by rw [hk]; rfl
        have e24 : (y.f1 == 24) = false := by rw [hk]; rfl
        have e15 : (y.f1 == 15) = false := by rw [hk]; rfl
        have e16 : (y.f1 == 16) = false := by rw [hk]; rfl
        have e17 : (y.f1 == 17) = false := by rw [hk]; rfl
        have e18 : (y.f1 == 18) = false := by rw [hk]; rfl
        have e19 : (y.f1 == 19) = false := by rw [hk]; rfl
        have e20 : (y.f1 == 20) = false := by rw [hk]; rfl
        have e21 : (y.f1 == 21) = false := by rw [hk]; rfl
        have e22 : (y.f1 == 22) = false := by rw [hk]; rfl
        have e26 : (y.f1 == 26) = false := by rw [hk]; rfl
        have e27 : (y.f1 == 27) = true := by rw [hk]; rfl
        clear hk hnr
        by_cases hl : ws.length = 2
        · have l0 : ((ws.length : Int) == 2) = true := by rw [hl]; rfl
          have HL := Lib.hid hl
          have hlI : (ws.length : Int) = 2 := by omega
          clear hl
          go_wp2_with fail
          go_ret
          exact ⟨by rw [HNr.out, if_pos HL.out]; try rfl, HBe.out⟩
        · have l0 : ((ws.length : Int) == 2) = false := beq_eq_false_iff_ne.mpr (by omega)
          have HL := Lib.hid hl
          clear hl
          go_wp2_with fail
          go_ret
          exact ⟨by rw [HNr.out, if_neg HL.out]; try rfl, HBe.out⟩
      · have hnr : opR y.f1 y.f5 y.f6 ws = (if ws.length = 2 then 1 else -1) := by unfold opR; rw [if_neg (by omega), if_neg (by omega), if_neg (by omega), if_neg (by omega), if_neg (by omega), if_pos (by omega)]
        have HNr := Lib.hid hnr
        have e7 : (y.f1 == 7) = false := by rw [hk]; rfl
        have e9 : (y.f1 == 9) = false := by rw [hk]; rfl
        have e8 : (y.f1 == 8) = false := by rw [hk]; rfl
        have e10 : (y.f1 == 10) = false := by rw [hk]; rfl
        have e11 : (y.f1 == 11) = false := by rw [hk]; rfl
        have e12 : (y.f1 == 12) = false := by rw [hk]; rfl
        have e13 : (y.f1 == 13) = false := by rw [hk]; rfl
        have e14 : (y.f1 == 14) = false := by rw [hk]; rfl
        have e23 : (y.f1 == 23) = false := by rw [hk]; rfl
        have e25 : (y.f1 == 25) = false := by rw [hk]; rfl
        have e24 : (y.f1 == 24) = false := by rw [hk]; rfl
        have e15 : (y.f1 == 15) = false := by rw [hk]; rfl
        have e16 : (y.f1 == 16) = false := by rw [hk]; rfl
        have e17 : (y.f1 == 17) = false := by rw [hk]; rfl
        have e18 : (y.f1 == 18) = false := by rw [hk]; rfl
        have e19 : (y.f1 == 19) = false := by rw [hk]; rfl
        have e20 : (y.f1 == 20) = false := by rw [hk]; rfl
        have e21 : (y.f1 == 21) = false := by rw [hk]; rfl
        have e22 : (y.f1 == 22) = false := by rw [hk]; rfl
        have e26 : (y.f1 == 26) = false := by rw [hk]; rfl
        have e27 : (y.f1 == 27) = false := by rw [hk]; rfl
        have e3 : (y.f1 == 3) = true := by rw [hk]; rfl
        clear hk hnr
        by_cases hl : ws.length = 2
        · have l0 : ((ws.length : Int) == 2) = true := by rw [hl]; rfl
          have HL := Lib.hid hl
          have hlI : (ws.length : Int) = 2 := by omega
          clear hl
          go_wp2_with fail
          go_ret
          exact ⟨by rw [HNr.out, if_pos HL.out]; try rfl, HBe.out⟩
        · have l0 : ((ws.length : Int) == 2) = false := beq_eq_false_iff_ne.mpr (by omega)
          have HL := Lib.hid hl
          clear hl
          go_wp2_with fail
          go_ret
          exact ⟨by rw [HNr.out, if_neg HL.out]; try rfl, HBe.out⟩
      · have hnr : opR y.f1 y.f5 y.f6 ws = (if ws.length = 3 ∧ ws.getD 1 0 = ws.getD 2 0 then ws.getD 1 0 else -1) := by unfold opR; rw [if_neg (by omega), if_neg (by omega), if_neg (by omega), if_neg (by omega), if_neg (by omega), if_neg (by omega), if_pos hk]
        have HNr := Lib.hid hnr
        have e7 : (y.f1 == 7) = false := by rw [hk]; rfl
        have e9 : (y.f1 == 9) = false := by rw [hk]; rfl
        have e8 : (y.f1 == 8) = false := by rw [hk]; rfl
        have e10 : (y.f1 == 10) = false := by rw [hk]; rfl
        have e11 : (y.f1 == 11) = false := by rw [hk]; rfl
        have e12 : (y.f1 == 12) = false := by rw [hk]; rfl
        have e13 : (y.f1 == 13) = false := by rw [hk]; rfl
        have e14 : (y.f1 == 14) = false := by rw [hk]; rfl
        have e23 : (y.f1 == 23) = false := by rw [hk]; rfl
        have e25 : (y.f1 == 25) = false := by rw [hk]; rfl
        have e24 : (y.f1 == 24) = false := by rw [hk]; rfl
        have e15 : (y.f1 == 15) = false := by rw [hk]; rfl
        have e16 : (y.f1 == 16) = false := by rw [hk]; rfl
        have e17 : (y.f1 == 17) = false := by rw [hk]; rfl
        have e18 : (y.f1 == 18) = false := by rw [hk]; rfl
        have e19 : (y.f1 == 19) = false := by rw [hk]; rfl
        have e20 : (y.f1 == 20) = false := by rw [hk]; rfl
        have e21 : (y.f1 == 21) = false := by rw [hk]; rfl
        have e22 : (y.f1 == 22) = false := by rw [hk]; rfl
        have e26 : (y.f1 == 26) = false := by rw [hk]; rfl
        have e27 : (y.f1 == 27) = false := by rw [hk]; rfl
        have e3 : (y.f1 == 3) = false := by rw [hk]; rfl
        have e6 : (y.f1 == 6) = true := by rw [hk]; rfl
        clear hk hnr
        by_cases hl : ws.length = 3
        · have l0 : ((ws.length : Int) == 3) = true := by rw [hl]; rfl
          obtain ⟨g, hA, hcs⟩ := row_at HR.out (by omega)
          subst hA
          have w0 := hcs 0 (by omega)
          have w1 := hcs 1 (by omega)
          have w2 := hcs 2 (by omega)
          clear hcs
          have HL := Lib.hid hl
          have hlI : (ws.length : Int) = 3 := by omega
          clear hl
          generalize ws.getD 0 0 = x0 at *
          generalize ws.getD 1 0 = x1 at *
          generalize ws.getD 2 0 = x2 at *
          by_cases ce : x1 = x2
          · have d1 : (x1 == x2) = true := beq_iff_eq.mpr ce
            have CE := Lib.hid ce
            clear ce
            go_upto_region 45 with fail
            go_region
            go_wp2_with fail
            go_ret
            exact ⟨by rw [HNr.out, if_pos ⟨HL.out, CE.out⟩]; try rfl, HBe.out.drew⟩
          · have d1 : (x1 == x2) = false := beq_eq_false_iff_ne.mpr ce
            have CE := Lib.hid ce
            clear ce
            go_upto_region 45 with fail
            go_region
            go_wp2_with fail
            go_ret
            exact ⟨by rw [HNr.out, if_neg (fun h => CE.out h.2)]; try rfl, HBe.out.drew⟩
        · have l0 : ((ws.length : Int) == 3) = false := beq_eq_false_iff_ne.mpr (by omega)
          have HL := Lib.hid hl
          clear hl
          go_upto_region 45 with fail
          go_region
          go_wp2_with fail
          go_ret
          exact ⟨by rw [HNr.out, if_neg (fun h => HL.out h.1)]; try rfl, HBe.out.drew⟩
      · have hnr : opR y.f1 y.f5 y.f6 ws = (if ws.length = 1 ∧ 0 ≤ y.f6 ∧ y.f6 ≤ y.f5 ∧ y.f5 < ws.getD 0 0 then y.f5 - y.f6 + 1 else -1) := by unfold opR; rw [if_neg (by omega), if_neg (by omega), if_neg (by omega), if_neg (by omega), if_neg (by omega), if_neg (by omega), if_neg (by omega), if_pos hk]
        have HNr := Lib.hid hnr
        have e7 : (y.f1 == 7) = false := by rw [hk]; rfl
        have e9 : (y.f1 == 9) = false := by rw [hk]; rfl
        have e8 : (y.f1 == 8) = false := by rw [hk]; rfl
        have e10 : (y.f1 == 10) = false := by rw [hk]; rfl
        have e11 : (y.f1 == 11) = false := by rw [hk]; rfl
        have e12 : (y.f1 == 12) = false := by rw [hk]; rfl
        have e13 : (y.f1 == 13) = false := by rw [hk]; rfl
        have e14 : (y.f1 == 14) = false := by rw [hk]; rfl
        have e23 : (y.f1 == 23) = false := by rw [hk]; rfl
        have e25 : (y.f1 == 25) = false := by rw [hk]; rfl
        have e24 : (y.f1 == 24) = false := by rw [hk]; rfl
        have e15 : (y.f1 == 15) = false := by rw [hk]; rfl
        have e16 : (y.f1 == 16) = false := by rw [hk]; rfl
        have e17 : (y.f1 == 17) = false := by rw [hk]; rfl
        have e18 : (y.f1 == 18) = false := by rw [hk]; rfl
        have e19 : (y.f1 == 19) = false := by rw [hk]; rfl
        have e20 : (y.f1 == 20) = false := by rw [hk]; rfl
        have e21 : (y.f1 == 21) = false := by rw [hk]; rfl
        have e22 : (y.f1 == 22) = false := by rw [hk]; rfl
        have e26 : (y.f1 == 26) = false := by rw [hk]; rfl
        have e27 : (y.f1 == 27) = false := by rw [hk]; rfl
        have e3 : (y.f1 == 3) = false := by rw [hk]; rfl
        have e6 : (y.f1 == 6) = false := by rw [hk]; rfl
        have e4 : (y.f1 == 4) = true := by rw [hk]; rfl
        clear hk hnr
        by_cases hl : ws.length = 1
        · have l0 : ((ws.length : Int) == 1) = true := by rw [hl]; rfl
          obtain ⟨g, hA, hcs⟩ := row_at HR.out (by omega)
          subst hA
          have w0 := hcs 0 (by omega)
          clear hcs
          have HL := Lib.hid hl
          have hlI : (ws.length : Int) = 1 := by omega
          have hwb : ws.getD 0 0 ≤ 256 := by
            have hg : ws.getD 0 0 ∈ ws := by rw [List.getD_eq_getElem?_getD, List.getElem?_eq_getElem (by omega)]; exact List.getElem_mem _
            exact (HWb.out _ hg).2
          clear hl
          generalize ws.getD 0 0 = x0 at *
          by_cases c0 : 0 ≤ y.f6
          · have d0 : decide (y.f6 ≥ 0) = true := decide_eq_true c0
            have C0 := Lib.hid c0
            by_cases c1 : y.f6 ≤ y.f5
            · have d1 : decide (y.f5 ≥ y.f6) = true := decide_eq_true c1
              have C1 := Lib.hid c1
              by_cases c2 : y.f5 < x0
              · have d2 : decide (y.f5 < x0) = true := decide_eq_true c2
                have C2 := Lib.hid c2
                go_upto_region 48 with fail; go_region; go_wp2_with fail
                go_ret
                exact ⟨by rw [HNr.out, if_pos ⟨HL.out, C0.out, C1.out, C2.out⟩]; try rfl, HBe.out.drew⟩
              · have d2 : decide (y.f5 < x0) = false := decide_eq_false c2
                have C2 := Lib.hid c2
                have c2b : x0 ≤ y.f5 := by omega
                clear c2
                go_upto_region 48 with fail; go_region; go_wp2_with fail
                go_ret
                exact ⟨by rw [HNr.out, if_neg (show ¬ (ws.length = 1 ∧ 0 ≤ y.f6 ∧ y.f6 ≤ y.f5 ∧ y.f5 < x0) by have := C2.out; omega)]; try rfl, HBe.out.drew⟩
            · have d1 : decide (y.f5 ≥ y.f6) = false := decide_eq_false c1
              have C1 := Lib.hid c1
              have c1b : y.f5 < y.f6 := by omega
              clear c1
              go_upto_region 48 with fail; go_region; go_wp2_with fail
              go_ret
              exact ⟨by rw [HNr.out, if_neg (show ¬ (ws.length = 1 ∧ 0 ≤ y.f6 ∧ y.f6 ≤ y.f5 ∧ y.f5 < x0) by have := C1.out; omega)]; try rfl, HBe.out.drew⟩
          · have d0 : decide (y.f6 ≥ 0) = false := decide_eq_false c0
            have C0 := Lib.hid c0
            have c0b : y.f6 < 0 := by omega
            clear c0
            go_upto_region 48 with fail; go_region; go_wp2_with fail
            go_ret
            exact ⟨by rw [HNr.out, if_neg (show ¬ (ws.length = 1 ∧ 0 ≤ y.f6 ∧ y.f6 ≤ y.f5 ∧ y.f5 < x0) by have := C0.out; omega)]; try rfl, HBe.out.drew⟩
        · have l0 : ((ws.length : Int) == 1) = false := beq_eq_false_iff_ne.mpr (by omega)
          have HL := Lib.hid hl
          clear hl
          go_upto_region 48 with fail
          go_region
          go_wp2_with fail
          go_ret
          exact ⟨by rw [HNr.out, if_neg (fun h => HL.out h.1)]; try rfl, HBe.out.drew⟩
      · have hnr : opR y.f1 y.f5 y.f6 ws = (if 1 ≤ ws.length ∧ ws.length ≤ 256 then ws.sum else -1) := by unfold opR; rw [if_neg (by omega), if_neg (by omega), if_neg (by omega), if_neg (by omega), if_neg (by omega), if_neg (by omega), if_neg (by omega), if_neg (by omega), if_pos hk]
        have HNr := Lib.hid hnr
        have e7 : (y.f1 == 7) = false := by rw [hk]; rfl
        have e9 : (y.f1 == 9) = false := by rw [hk]; rfl
        have e8 : (y.f1 == 8) = false := by rw [hk]; rfl
        have e10 : (y.f1 == 10) = false := by rw [hk]; rfl
        have e11 : (y.f1 == 11) = false := by rw [hk]; rfl
        have e12 : (y.f1 == 12) = false := by rw [hk]; rfl
        have e13 : (y.f1 == 13) = false := by rw [hk]; rfl
        have e14 : (y.f1 == 14) = false := by rw [hk]; rfl
        have e23 : (y.f1 == 23) = false := by rw [hk]; rfl
        have e25 : (y.f1 == 25) = false := by rw [hk]; rfl
        have e24 : (y.f1 == 24) = false := by rw [hk]; rfl
        have e15 : (y.f1 == 15) = false := by rw [hk]; rfl
        have e16 : (y.f1 == 16) = false := by rw [hk]; rfl
        have e17 : (y.f1 == 17) = false := by rw [hk]; rfl
        have e18 : (y.f1 == 18) = false := by rw [hk]; rfl
        have e19 : (y.f1 == 19) = false := by rw [hk]; rfl
        have e20 : (y.f1 == 20) = false := by rw [hk]; rfl
        have e21 : (y.f1 == 21) = false := by rw [hk]; rfl
        have e22 : (y.f1 == 22) = false := by rw [hk]; rfl
        have e26 : (y.f1 == 26) = false := by rw [hk]; rfl
        have e27 : (y.f1 == 27) = false := by rw [hk]; rfl
        have e3 : (y.f1 == 3) = false := by rw [hk]; rfl
        have e6 : (y.f1 == 6) = false := by rw [hk]; rfl
        have e4 : (y.f1 == 4) = false := by rw [hk]; rfl
        have e5 : (y.f1 == 5) = true := by rw [hk]; rfl
        clear hk hnr
        by_cases h1 : 1 ≤ ws.length
        · have l1 : decide ((ws.length : Int) ≥ 1) = true := decide_eq_true (by omega)
          have L1 := Lib.hid h1
          have l1b : 1 ≤ (ws.length : Int) := by omega
          clear h1
          by_cases h2 : ws.length ≤ 256
          · have l2 : decide ((ws.length : Int) ≤ 256) = true := decide_eq_true (by omega)
            have L2 := Lib.hid h2
            have l2b : (ws.length : Int) ≤ 256 := by omega
            clear h2
            go_wp2_with fail
            go_ret
            exact ⟨by rw [HNr.out, if_pos ⟨L1.out, L2.out⟩]; try rfl, HBe.out⟩
          · have l2 : decide ((ws.length : Int) ≤ 256) = false := decide_eq_false (by omega)
            have L2 := Lib.hid h2
            have l2b : 256 < (ws.length : Int) := by omega
            clear h2
            go_wp2_with fail
            go_ret
            exact ⟨by rw [HNr.out, if_neg (show ¬ (1 ≤ ws.length ∧ ws.length ≤ 256) by have := L2.out; omega)]; try rfl, HBe.out⟩
        · have l1 : decide ((ws.length : Int) ≥ 1) = false := decide_eq_false (by omega)
          have L1 := Lib.hid h1
          have l1b : (ws.length : Int) < 1 := by omega
          clear h1
          go_wp2_with fail
          go_ret
          exact ⟨by rw [HNr.out, if_neg (show ¬ (1 ≤ ws.length ∧ ws.length ≤ 256) by have := L1.out; omega)]; try rfl, HBe.out⟩
      · have hnr : opR y.f1 y.f5 y.f6 ws = (-1) := by unfold opR; rw [if_neg (by omega), if_neg (by omega), if_neg (by omega), if_neg (by omega), if_neg (by omega), if_neg (by omega), if_neg (by omega), if_neg (by omega), if_neg (by omega)]
        have HNr := Lib.hid hnr
        have e7 : (y.f1 == 7) = false := beq_eq_false_iff_ne.mpr (by omega)
        have e9 : (y.f1 == 9) = false := beq_eq_false_iff_ne.mpr (by omega)
        have e8 : (y.f1 == 8) = false := beq_eq_false_iff_ne.mpr (by omega)
        have e10 : (y.f1 == 10) = false := beq_eq_false_iff_ne.mpr (by omega)
        have e11 : (y.f1 == 11) = false := beq_eq_false_iff_ne.mpr (by omega)
        have e12 : (y.f1 == 12) = false := beq_eq_false_iff_ne.mpr (by omega)
        have e13 : (y.f1 == 13) = false := beq_eq_false_iff_ne.mpr (by omega)
        have e14 : (y.f1 == 14) = false := beq_eq_false_iff_ne.mpr (by omega)
        have e23 : (y.f1 == 23) = false := beq_eq_false_iff_ne.mpr (by omega)
        have e25 : (y.f1 == 25) = false := beq_eq_false_iff_ne.mpr (by omega)
        have e24 : (y.f1 == 24) = false := beq_eq_false_iff_ne.mpr (by omega)
        have e15 : (y.f1 == 15) = false := beq_eq_false_iff_ne.mpr (by omega)
        have e16 : (y.f1 == 16) = false := beq_eq_false_iff_ne.mpr (by omega)
        have e17 : (y.f1 == 17) = false := beq_eq_false_iff_ne.mpr (by omega)
        have e18 : (y.f1 == 18) = false := beq_eq_false_iff_ne.mpr (by omega)
        have e19 : (y.f1 == 19) = false := beq_eq_false_iff_ne.mpr (by omega)
        have e20 : (y.f1 == 20) = false := beq_eq_false_iff_ne.mpr (by omega)
        have e21 : (y.f1 == 21) = false := beq_eq_false_iff_ne.mpr (by omega)
        have e22 : (y.f1 == 22) = false := beq_eq_false_iff_ne.mpr (by omega)
        have e26 : (y.f1 == 26) = false := beq_eq_false_iff_ne.mpr (by omega)
        have e27 : (y.f1 == 27) = false := beq_eq_false_iff_ne.mpr (by omega)
        have e3 : (y.f1 == 3) = false := beq_eq_false_iff_ne.mpr (by omega)
        have e6 : (y.f1 == 6) = false := beq_eq_false_iff_ne.mpr (by omega)
        have e4 : (y.f1 == 4) = false := beq_eq_false_iff_ne.mpr (by omega)
        have e5 : (y.f1 == 5) = false := beq_eq_false_iff_ne.mpr (by omega)
        clear hk hnr
        go_wp2_with fail
        go_ret
        exact ⟨by rw [HNr.out]; try rfl, HBe.out⟩
end Go.Proofs.YtonnmkhmhndalaaDoor
