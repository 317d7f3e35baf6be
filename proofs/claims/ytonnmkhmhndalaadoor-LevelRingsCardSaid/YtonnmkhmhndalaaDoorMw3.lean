/- Which nodes may be, as the document has it, walked. -/
import Derived.Test.YtonnmkhmhndalaaDoorMw2
namespace Go.Proofs.YtonnmkhmhndalaaDoor
set_option linter.unusedVariables false
set_option linter.unusedSimpArgs false
open Go.RowKit Go.Proofs.YtonnmkhmhndalaaDoorW.PrintWords Go.Proofs.YtonnmkhmhndalaaDoorW.PrintLast Go.Proofs.YtonnmkhmhndalaaDoorW.PrintMore

/-- the first of some widths -/
def wF (ws : List Int) (i : Nat) : Nat → Int := fun j => if j < i then ws.getD j 0 else 0
theorem wF_succ (ws : List Int) (i : Nat) : upd (wF ws i) i (ws.getD i 0) = wF ws (i + 1) := by
  funext j
  unfold upd wF
  by_cases e : j = i
  · subst e; rw [if_pos rfl, if_pos (by omega)]
  · rw [if_neg e]
    by_cases e2 : j < i
    · rw [if_pos e2, if_pos (by omega)]
    · rw [if_neg e2, if_neg (by omega)]
theorem Cl.below2 {β : Type} {enc : β → Value} {W W' : World} {b n : Nat} {f : Nat → β} (h : Cl enc W b n f) (hb : Below W.heap.size W W') : Cl enc W' b n f := h.below hb h.s
set_option maxRecDepth 100000 in
set_option maxHeartbeats 8000000 in
theorem node_any (x : NL) (A : Option Addr) (c : Nat) (B : Option Addr) (d : Nat) (y : S39) (A3 : Option Addr) (c3 : Nat) (w : World) (hI : NIn w x A c B d) (hC : Kd.C (Kd.int .i64) w A3 y.f3.length y.f3) (hc : y.f3.length ≤ c3) (hY : YOk x y) (hf1 : 1 ≤ y.f2) (hf2 : y.f2 ≤ 256) :
    Calls Tryd.prog 28 #[nlV x A c B d, ndV y A3 c3] w fun e w' => e = .returned (.bool (nodeB (wsOf x.nd y) y)) ∧ Below w.heap.size w w' := by
  have HI := Lib.hid hI
  have HC := Lib.hid hC
  have HY := Lib.hid hY
  obtain ⟨ws, hws⟩ : ∃ ws, wsOf x.nd y = ws := ⟨_, rfl⟩
  have hwb : ∀ a ∈ ws, 1 ≤ a ∧ a ≤ 256 := by rw [← hws]; exact hY.ws
  have hwl : ws.length = y.f3.length := by rw [← hws]; exact wsOf_len x y
  have HWs := Lib.hid hws
  have HWb := Lib.hid hwb
  have HWl := Lib.hid hwl
  rw [hws]
  have HF := Lib.hid (And.intro hf1 hf2)
  clear hI hC hY hws hwb hwl hf1 hf2
  go_enter Tryd.func28, Tryd.ntmps28
  go_upto_region 1 with fail
  obtain ⟨W0, hW0⟩ : ∃ W, w.alloc (Obj.cells #[.slice A x.nd.length c, .slice B x.nt.length d, .int .i64 x.pt] 25) = W := ⟨_, rfl⟩
  rw [hW0]
  obtain ⟨hx0, hb0, hz0⟩ := box_list hW0
  obtain ⟨W1, hW1⟩ : ∃ W, W0.alloc (Obj.cells #[Value.int IntKind.i64 y.f0, Value.int IntKind.i64 y.f1, Value.int IntKind.i64 y.f2, Value.slice A3 y.f3.length c3, Value.string y.f4, Value.int IntKind.i64 y.f5, Value.int IntKind.i64 y.f6, Value.int IntKind.i64 y.f7] 39) = W := ⟨_, rfl⟩
  rw [hW1]
  obtain ⟨hn1, hb1⟩ := box_node (Kd.C_below HC.out hb0) hW1
  have hx1 := hx0.below hb1
  rw [hz0] at hn1
  have k3 := hn1.k3
  have hz1 : W1.heap.size = w.heap.size + 2 := by rw [← hW1]; simp; omega
  have HX1 := Lib.hid hx1
  have HN1 := Lib.hid hn1
  have HB1 := Lib.hid (hb0.trans (hb1.mono (by omega)))
  have HZ0 := Lib.hid hz0
  have HZ1 := Lib.hid hz1
  clear hx0 hb0 hz0 hb1 hn1 hx1 hz1 hW0 hW1
  obtain ⟨m, hm⟩ : ∃ m, y.f3.length = m := ⟨_, rfl⟩
  rw [hm] at k3
  have HM := Lib.hid hm
  clear hm
  go_upto_region 3 with fail
  obtain ⟨W2, hW2⟩ : ∃ W, W1.alloc (Obj.cells #[.int .i64 0, .int .i64 0, .int .i64 0] 3) = W := ⟨_, rfl⟩
  rw [hW2]
  have hcl : Cl (Value.int .i64) W2 W1.heap.size 3 (wF ws 0) := by
    refine ⟨fun j hj => ?_, fun j hj => ?_, by rw [← hW2]; simp⟩
    · have : j = 0 ∨ j = 1 ∨ j = 2 := by omega
      rcases this with rfl | rfl | rfl <;> (rw [← hW2]; simp [go_sem, wF])
    · rw [← hW2]; simp [go_sem]
  have hb2 : Below W1.heap.size W1 W2 := by rw [← hW2]; exact below_alloc (Below.refl _ _) _
  have HCl := Lib.hid hcl
  have HB2 := Lib.hid hb2
  clear hcl hb2 hW2 k3
  go_upto_block 0 with fail
  go_cut [7] (fun _ wx => Hid (∀ j, j < 3 → j < m → wx.cell? ⟨W1.heap.size, j, none⟩ = some (.int .i64 (ws.getD j 0))) ∧ Hid (Below W1.heap.size W1 wx))
  case first =>
   go_wp2_with fail
   go_loopw [7] (fun v7 wx => ∃ i : Nat, v7 = .int .i64 i ∧ i ≤ m ∧ i ≤ 3 ∧ Hid (Cl (Value.int .i64) wx W1.heap.size 3 (wF ws i)) ∧ Hid (Below W1.heap.size W1 wx)) (fun v7 _ => 3 - (intOf v7).toNat)
   case atStart => exact ⟨0, rfl, Nat.zero_le _, Nat.zero_le _, HCl, HB2⟩
   case round =>
     obtain ⟨i, rfl, hi, hi3', HCx, HBx⟩ := hrel
     by_cases hlt' : i < m ∧ i < 3
     · obtain ⟨hlt, hl3⟩ := hlt'
       have hi3 : i < y.f3.length := by rw [HM.out]; exact hlt
       have hBw : Below w.heap.size w wr := HB1.out.trans (HBx.out.mono (by have := HZ1.out; omega))
       obtain ⟨b6, o6, hA6, g6, -⟩ := ints_at (Kd.C_below HC.out hBw) i hi3
       have hmem : y.f3.getD i 0 ∈ y.f3 := by rw [List.getD_eq_getElem?_getD, List.getElem?_eq_getElem hi3]; exact List.getElem_mem _
       have hin := HY.out.i _ hmem
       obtain ⟨a, ha⟩ : ∃ a : Nat, y.f3.getD i 0 = (a : Int) := ⟨(y.f3.getD i 0).toNat, by omega⟩
       have han : a < x.nd.length := by rw [ha] at hin; omega
       rw [ha] at g6
       subst hA6
       obtain ⟨b, o, A4, c4, hA, hl4, hbs, hND⟩ := nodes_in HI.out.h0 a han
       subst hA
       have k2 := (hND _ hBw).k2
       have q0 := (HX1.out.belowB HBx.out (by have := HZ1.out; omega)).k0
       have hii : i < ws.length := by rw [HWl.out]; exact hi3
       have hwe : ws.getD i 0 = (x.nd.getD a z39).f2 := by
         have e1 : ws[i] = wAt x.nd (y.f3.getD i 0) := by
           have : ws[i]? = some (wAt x.nd y.f3[i]) := by
             rw [← HWs.out]
             unfold wsOf
             rw [List.getElem?_map, List.getElem?_eq_getElem hi3]
             rfl
           rw [List.getElem?_eq_getElem hii] at this
           rw [Option.some.inj this, List.getD_eq_getElem?_getD, List.getElem?_eq_getElem hi3]
           rfl
         rw [List.getD_eq_getElem?_getD, List.getElem?_eq_getElem hii]
         show ws[i] = _
         rw [e1, ha]
         unfold wAt
         rw [Int.toNat_natCast]
       have k3b := (HN1.out.below HBx.out).k3
       rw [HM.out] at k3b
       have c1 := HCx.out.c i hl3
       have c2 := HCx.out.f i hl3
       have hsu := wF_succ ws i
       rw [hwe] at hsu
       generalize (x.nd.getD a z39).f2 = wa at *
       have HSu := Lib.hid hsu
       have HLt := Lib.hid hlt
       have HL3 := Lib.hid hl3
       have g1 : decide ((i : Int) < (m : Int)) = true := decide_eq_true (by omega)
       have g2 : decide ((i : Int) < 3) = true := decide_eq_true (by omega)
       clear hmem hin ha hND hbs hl4 hii hBw hi3 hwe hsu
       go_upto_region 6 with fail
       go_region
       go_wp2_with fail
       refine ⟨⟨i + 1, by simp, HLt.out, HL3.out, by rw [← HSu.out]; exact Lib.hid (HCx.out.below (below_drew (Below.refl _ _)) HCx.out.s |>.set i wa), Lib.hid (below_set2 (Nat.le_refl _) HBx.out.drew)⟩, by have := HL3.out; simp [intOf]; omega⟩
     · have hwl : ws.length = m := by rw [HWl.out, HM.out]
       have hwc : ∀ j, j < 3 → j < m → wr.cell? ⟨W1.heap.size, j, none⟩ = some (.int .i64 (ws.getD j 0)) := by
         intro j hj hjm
         have h1 := HCx.out.c j hj
         unfold wF at h1
         rw [if_pos (by omega)] at h1
         exact h1
       have HWc := Lib.hid hwc
       have hc2 : ((i : Int) < (m : Int) → 3 ≤ (i : Int)) := by omega
       have k3 := (HN1.out.below HBx.out).k3
       rw [HM.out] at k3
       clear hwc hwl hlt'
       go_wp2_with fail
       all_goals
         go_meet
         exact ⟨HWc, HBx⟩
  case rest =>
   obtain ⟨HWc, HBx⟩ := hcut
   have hNx := HN1.out.below HBx.out
   have HNx := Lib.hid hNx
   obtain ⟨k0, k1, k2, k3, k4, k5, k6, k7, -⟩ := HNx.out
   have HBe := Lib.hid (HB1.out.trans (HBx.out.mono (show w.heap.size ≤ W1.heap.size by have := HZ1.out; omega)))
   have hwl : ws.length = m := by rw [HWl.out, HM.out]
   have HLm := Lib.hid hwl
   have hwc := HWc.out
   rw [← HLm.out] at hwc
   have HWd := Lib.hid hwc
   clear hNx hwl hwc k1 k5 k6
   have E2 := HLm.out
   subst E2
   have hkk : y.f0 = 1 ∨ y.f0 = 2 ∨ y.f0 = 3 ∨ y.f0 = 4 ∨ y.f0 = 5 ∨ y.f0 = 6 ∨ y.f0 = 7 ∨ y.f0 = 8 ∨ (y.f0 < 1 ∨ 8 < y.f0) := by omega
   rcases hkk with hk | hk | hk | hk | hk | hk | hk | hk | hk
   · have hnb : nodeB ws y = (decide (ws.length = 0) && (vOk y.f4 && decide ((y.f4.size : Int) = y.f2))) := by unfold nodeB; rw [if_pos hk]
     have HNb := Lib.hid hnb
     have e1 : (y.f0 == 1) = true := by rw [hk]; rfl
     clear hk hnb
     have k4 := HNx.out.k4
     by_cases hl : ws.length = 0
     · have l0 : ((ws.length : Int) == 0) = true := by rw [hl]; rfl
       have HL := Lib.hid hl
       have hlI : (ws.length : Int) = 0 := by omega
       clear hl
       have hv := fun W => may_any y.f4 W HY.out.z
       obtain ⟨vb, hvb⟩ : ∃ b, vOk y.f4 = b := ⟨_, rfl⟩
       rw [hvb] at hv
       have HV := Lib.hid hv
       have HVb := Lib.hid hvb
       clear hv hvb
       have hsw : vOk y.f4 = true → y.f4.size ≤ 256 := fun h => by unfold vOk at h; simp at h; omega
       clear hsw
       cases vb
       · skip
         go_upto_region 9 with fail
         go_wp2_with fail
         refine (HV.out _).mono ?_
         rintro e w9 ⟨rfl, mq, rfl⟩
         go_wp2_with fail
         go_ret
         exact ⟨by rw [HNb.out, HVb.out]; simp, pw_below_drewN HBe.out _⟩
       · by_cases cs : (y.f4.size : Int) = y.f2
         · have d1 : ((y.f4.size : Int) == y.f2) = true := beq_iff_eq.mpr cs
           have CS := Lib.hid cs
           clear cs
           go_upto_region 9 with fail
           go_wp2_with fail
           refine (HV.out _).mono ?_
           rintro e w9 ⟨rfl, mq, rfl⟩
           go_wp2_with fail
           go_ret
           exact ⟨by rw [HNb.out, HVb.out, decide_eq_true CS.out, decide_eq_true HL.out]; try rfl, pw_below_drewN HBe.out _⟩
         · have d1 : ((y.f4.size : Int) == y.f2) = false := beq_eq_false_iff_ne.mpr cs
           have CS := Lib.hid cs
           clear cs
           go_upto_region 9 with fail
           go_wp2_with fail
           refine (HV.out _).mono ?_
           rintro e w9 ⟨rfl, mq, rfl⟩
           go_wp2_with fail
           go_ret
           exact ⟨by rw [HNb.out, decide_eq_false CS.out]; simp, pw_below_drewN HBe.out _⟩
     · have l0 : ((ws.length : Int) == 0) = false := beq_eq_false_iff_ne.mpr (by omega)
       have HL := Lib.hid hl
       clear hl
       go_wp2_with fail
       go_ret
       exact ⟨by rw [HNb.out, decide_eq_false HL.out]; simp, HBe.out⟩
   · have hnb : nodeB ws y = (decide (ws.length = 0)) := by unfold nodeB; rw [if_neg (by omega), if_pos hk]
     have HNb := Lib.hid hnb
     have e1 : (y.f0 == 1) = false := by rw [hk]; rfl
     have e2 : (y.f0 == 2) = true := by rw [hk]; rfl
     clear hk hnb
     by_cases hl : ws.length = 0
     · have l0 : ((ws.length : Int) == 0) = true := by rw [hl]; rfl
       have HL := Lib.hid hl
       clear hl
       go_wp2_with fail
       go_ret
       exact ⟨by rw [HNb.out, decide_eq_true HL.out]; try rfl, HBe.out⟩
     · have l0 : ((ws.length : Int) == 0) = false := beq_eq_false_iff_ne.mpr (by omega)
       have HL := Lib.hid hl
       clear hl
       go_wp2_with fail
       go_ret
       exact ⟨by rw [HNb.out, decide_eq_false HL.out]; try rfl, HBe.out⟩
   · have hnb : nodeB ws y = (decide (opW y.f1 y.f5 y.f6 ws = y.f2)) := by unfold nodeB; rw [if_neg (by omega), if_neg (by omega), if_pos hk]
     have HNb := Lib.hid hnb
     have e1 : (y.f0 == 1) = false := by rw [hk]; rfl
     have e2 : (y.f0 == 2) = false := by rw [hk]; rfl
     have e3 : (y.f0 == 3) = true := by rw [hk]; rfl
     obtain ⟨j0, j1, j2, j3, j4, j5, j6, j7, jC⟩ := HNx.out
     obtain ⟨i0, i1, i2⟩ := HX1.out.below HBx.out
     have hop : ∀ p : BelowBy wc, Calls Tryd.prog 49 #[nlV x A c B d, ndV y A3 c3] p.W fun e w' => e = .returned (.int .i64 (opR y.f1 y.f5 y.f6 ws)) ∧ Below p.W.heap.size p.W w' := by
       intro p
       have h9 := oper_any x A c B d y A3 c3 p.W (HI.out.below (HBe.out.trans (p.h.mono HBe.out.size))) (Kd.C_below jC p.h) hc HY.out
       rw [HWs.out] at h9
       exact h9
     have how := opR_opW y.f1 y.f5 y.f6 y.f2 ws HWb.out HF.out.1 HF.out.2
     generalize opR y.f1 y.f5 y.f6 ws = ow at *
     have HOp := Lib.hid hop
     have HOw := Lib.hid how
     have n0 : ∀ p : BelowBy wc, p.W.cell? ⟨w.heap.size, 0, none⟩ = some (.slice A x.nd.length c) := fun p => p.cell i0
     have n1 : ∀ p : BelowBy wc, p.W.cell? ⟨w.heap.size, 1, none⟩ = some (.slice B x.nt.length d) := fun p => p.cell i1
     have n2 : ∀ p : BelowBy wc, p.W.cell? ⟨w.heap.size, 2, none⟩ = some (.int .i64 x.pt) := fun p => p.cell i2
     have p0 : ∀ p : BelowBy wc, p.W.cell? ⟨w.heap.size + 1, 0, none⟩ = some (.int .i64 y.f0) := fun p => p.cell j0
     have p1 : ∀ p : BelowBy wc, p.W.cell? ⟨w.heap.size + 1, 1, none⟩ = some (.int .i64 y.f1) := fun p => p.cell j1
     have p2 : ∀ p : BelowBy wc, p.W.cell? ⟨w.heap.size + 1, 2, none⟩ = some (.int .i64 y.f2) := fun p => p.cell j2
     have p3 : ∀ p : BelowBy wc, p.W.cell? ⟨w.heap.size + 1, 3, none⟩ = some (.slice A3 y.f3.length c3) := fun p => p.cell j3
     have p4 : ∀ p : BelowBy wc, p.W.cell? ⟨w.heap.size + 1, 4, none⟩ = some (.string y.f4) := fun p => p.cell j4
     have p5 : ∀ p : BelowBy wc, p.W.cell? ⟨w.heap.size + 1, 5, none⟩ = some (.int .i64 y.f5) := fun p => p.cell j5
     have p6 : ∀ p : BelowBy wc, p.W.cell? ⟨w.heap.size + 1, 6, none⟩ = some (.int .i64 y.f6) := fun p => p.cell j6
     have p7 : ∀ p : BelowBy wc, p.W.cell? ⟨w.heap.size + 1, 7, none⟩ = some (.int .i64 y.f7) := fun p => p.cell j7
     clear hk hnb hop how i0 i1 i2 j0 j1 j2 j3 j4 j5 j6 j7 jC k2 k3 k4 k7
     by_cases cq : ow = y.f2
     · have d1 : (ow == y.f2) = true := beq_iff_eq.mpr cq
       have CQ := Lib.hid cq
       clear cq
       go_upto_region 13 with fail
       refine region_below (by kernel_rfl) (by kernel_rfl) ?_
       repeat (quiet_step (with_reducible first | exact call_below _ (HOp.out _) | fail))
       refine wpQuiet_nil ?_
       rintro _ ⟨p, rfl⟩
       go_wp2_with fail
       go_ret
       exact ⟨by rw [HNb.out, ← HOw.out, decide_eq_true CQ.out]; try rfl, HBe.out.trans (p.h.mono HBe.out.size)⟩
     · have d1 : (ow == y.f2) = false := beq_eq_false_iff_ne.mpr cq
       have CQ := Lib.hid cq
       clear cq
       go_upto_region 13 with fail
       refine region_below (by kernel_rfl) (by kernel_rfl) ?_
       repeat (quiet_step (with_reducible first | exact call_below _ (HOp.out _) | fail))
       refine wpQuiet_nil ?_
       rintro _ ⟨p, rfl⟩
       go_wp2_with fail
       go_ret
       exact ⟨by rw [HNb.out, ← HOw.out, decide_eq_false CQ.out]; try rfl, HBe.out.trans (p.h.mono HBe.out.size)⟩
   · have hnb : nodeB ws y = (decide (ws.length = 3) && (decide (ws.getD 1 0 = y.f2) && decide (ws.getD 2 0 = y.f2))) := by unfold nodeB; rw [if_neg (by omega), if_neg (by omega), if_neg (by omega), if_pos hk]
     have HNb := Lib.hid hnb
     have e1 : (y.f0 == 1) = false := by rw [hk]; rfl
     have e2 : (y.f0 == 2) = false := by rw [hk]; rfl
     have e3 : (y.f0 == 3) = false := by rw [hk]; rfl
     have e4 : (y.f0 == 4) = true := by rw [hk]; rfl
     clear hk hnb
     by_cases hl : ws.length = 3
     · have l0 : ((ws.length : Int) == 3) = true := by rw [hl]; rfl
       have w0 := HWd.out 0 (by omega) (by omega)
       have w1 := HWd.out 1 (by omega) (by omega)
       have w2 := HWd.out 2 (by omega) (by omega)
       have HL := Lib.hid hl
       have hlI : (ws.length : Int) = 3 := by omega
       clear hl
       generalize ws.getD 0 0 = x0 at *
       generalize ws.getD 1 0 = x1 at *
       generalize ws.getD 2 0 = x2 at *
       by_cases c0 : x1 = y.f2
       · have d0 : (x1 == y.f2) = true := by first | exact beq_iff_eq.mpr c0 | exact decide_eq_true c0
         have C0 := Lib.hid c0
         clear c0
         by_cases c1 : x2 = y.f2
         · have d1 : (x2 == y.f2) = true := by first | exact beq_iff_eq.mpr c1 | exact decide_eq_true c1
           have C1 := Lib.hid c1
           clear c1
           go_upto_region 15 with fail; go_region; go_wp2_with fail
           go_ret
           exact ⟨by rw [HNb.out, decide_eq_true HL.out, decide_eq_true C0.out, decide_eq_true C1.out]; try rfl, HBe.out.drew⟩
         · have d1 : (x2 == y.f2) = false := by first | exact beq_eq_false_iff_ne.mpr c1 | exact decide_eq_false c1
           have C1 := Lib.hid c1
           clear c1
           go_upto_region 15 with fail; go_region; go_wp2_with fail
           go_ret
           exact ⟨by rw [HNb.out, decide_eq_true HL.out, decide_eq_true C0.out, decide_eq_false (show ¬ (x2 = y.f2) by first | exact C1.out | (have := C1.out; omega))]; simp, HBe.out.drew⟩
       · have d0 : (x1 == y.f2) = false := by first | exact beq_eq_false_iff_ne.mpr c0 | exact decide_eq_false c0
         have C0 := Lib.hid c0
         clear c0
         go_upto_region 15 with fail; go_region; go_wp2_with fail
         go_ret
         exact ⟨by rw [HNb.out, decide_eq_true HL.out, decide_eq_false (show ¬ (x1 = y.f2) by first | exact C0.out | (have := C0.out; omega))]; simp, HBe.out.drew⟩
     · have l0 : ((ws.length : Int) == 3) = false := beq_eq_false_iff_ne.mpr (by omega)
       have HL := Lib.hid hl
       clear hl
       go_upto_region 15 with fail; go_region; go_wp2_with fail
       go_ret
       exact ⟨by rw [HNb.out, decide_eq_false HL.out]; simp, HBe.out.drew⟩
   · have hnb : nodeB ws y = (decide (ws.length = 2) && (decide (ws.getD 0 0 = ws.getD 1 0) && decide (y.f2 = 1))) := by unfold nodeB; rw [if_neg (by omega), if_neg (by omega), if_neg (by omega), if_neg (by omega), if_pos hk]
     have HNb := Lib.hid hnb
     have e1 : (y.f0 == 1) = false := by rw [hk]; rfl
     have e2 : (y.f0 == 2) = false := by rw [hk]; rfl
     have e3 : (y.f0 == 3) = false := by rw [hk]; rfl
     have e4 : (y.f0 == 4) = false := by rw [hk]; rfl
     have e5 : (y.f0 == 5) = true := by rw [hk]; rfl
     clear hk hnb
     by_cases hl : ws.length = 2
     · have l0 : ((ws.length : Int) == 2) = true := by rw [hl]; rfl
       have w0 := HWd.out 0 (by omega) (by omega)
       have w1 := HWd.out 1 (by omega) (by omega)
       have HL := Lib.hid hl
       have hlI : (ws.length : Int) = 2 := by omega
       clear hl
       generalize ws.getD 0 0 = x0 at *
       generalize ws.getD 1 0 = x1 at *
       by_cases c0 : x0 = x1
       · have d0 : (x0 == x1) = true := by first | exact beq_iff_eq.mpr c0 | exact decide_eq_true c0
         have C0 := Lib.hid c0
         clear c0
         by_cases c1 : y.f2 = 1
         · have d1 : (y.f2 == 1) = true := by first | exact beq_iff_eq.mpr c1 | exact decide_eq_true c1
           have C1 := Lib.hid c1
           clear c1
           go_upto_region 17 with fail; go_region; go_wp2_with fail
           go_ret
           exact ⟨by rw [HNb.out, decide_eq_true HL.out, decide_eq_true C0.out, decide_eq_true C1.out]; try rfl, HBe.out.drew⟩
         · have d1 : (y.f2 == 1) = false := by first | exact beq_eq_false_iff_ne.mpr c1 | exact decide_eq_false c1
           have C1 := Lib.hid c1
           clear c1
           go_upto_region 17 with fail; go_region; go_wp2_with fail
           go_ret
           exact ⟨by rw [HNb.out, decide_eq_true HL.out, decide_eq_true C0.out, decide_eq_false (show ¬ (y.f2 = 1) by first | exact C1.out | (have := C1.out; omega))]; simp, HBe.out.drew⟩
       · have d0 : (x0 == x1) = false := by first | exact beq_eq_false_iff_ne.mpr c0 | exact decide_eq_false c0
         have C0 := Lib.hid c0
         clear c0
         go_upto_region 17 with fail; go_region; go_wp2_with fail
         go_ret
         exact ⟨by rw [HNb.out, decide_eq_true HL.out, decide_eq_false (show ¬ (x0 = x1) by first | exact C0.out | (have := C0.out; omega))]; simp, HBe.out.drew⟩
     · have l0 : ((ws.length : Int) == 2) = false := beq_eq_false_iff_ne.mpr (by omega)
       have HL := Lib.hid hl
       clear hl
       go_upto_region 17 with fail; go_region; go_wp2_with fail
       go_ret
       exact ⟨by rw [HNb.out, decide_eq_false HL.out]; simp, HBe.out.drew⟩
   · have hnb : nodeB ws y = (decide (ws.length = 1)) := by unfold nodeB; rw [if_neg (by omega), if_neg (by omega), if_neg (by omega), if_neg (by omega), if_neg (by omega), if_pos hk]
     have HNb := Lib.hid hnb
     have e1 : (y.f0 == 1) = false := by rw [hk]; rfl
     have e2 : (y.f0 == 2) = false := by rw [hk]; rfl
     have e3 : (y.f0 == 3) = false := by rw [hk]; rfl
     have e4 : (y.f0 == 4) = false := by rw [hk]; rfl
     have e5 : (y.f0 == 5) = false := by rw [hk]; rfl
     have e6 : (y.f0 == 6) = true := by rw [hk]; rfl
     clear hk hnb
     by_cases hl : ws.length = 1
     · have l0 : ((ws.length : Int) == 1) = true := by rw [hl]; rfl
       have HL := Lib.hid hl
       clear hl
       go_wp2_with fail
       go_ret
       exact ⟨by rw [HNb.out, decide_eq_true HL.out]; try rfl, HBe.out⟩
     · have l0 : ((ws.length : Int) == 1) = false := beq_eq_false_iff_ne.mpr (by omega)
       have HL := Lib.hid hl
       clear hl
       go_wp2_with fail
       go_ret
       exact ⟨by rw [HNb.out, decide_eq_false HL.out]; try rfl, HBe.out⟩
   · have hnb : nodeB ws y = (decide (ws.length = 2) && decide (ws.getD 1 0 = y.f2)) := by unfold nodeB; rw [if_neg (by omega), if_neg (by omega), if_neg (by omega), if_neg (by omega), if_neg (by omega), if_neg (by omega), if_pos hk]
     have HNb := Lib.hid hnb
     have e1 : (y.f0 == 1) = false := by rw [hk]; rfl
     have e2 : (y.f0 == 2) = false := by rw [hk]; rfl
     have e3 : (y.f0 == 3) = false := by rw [hk]; rfl
     have e4 : (y.f0 == 4) = false := by rw [hk]; rfl
     have e5 : (y.f0 == 5) = false := by rw [hk]; rfl
     have e6 : (y.f0 == 6) = false := by rw [hk]; rfl
     have e7 : (y.f0 == 7) = true := by rw [hk]; rfl
     clear hk hnb
     by_cases hl : ws.length = 2
     · have l0 : ((ws.length : Int) == 2) = true := by rw [hl]; rfl
       have w0 := HWd.out 0 (by omega) (by omega)
       have w1 := HWd.out 1 (by omega) (by omega)
       have HL := Lib.hid hl
       have hlI : (ws.length : Int) = 2 := by omega
       clear hl
       generalize ws.getD 0 0 = x0 at *
       generalize ws.getD 1 0 = x1 at *
       by_cases c0 : x1 = y.f2
       · have d0 : (x1 == y.f2) = true := by first | exact beq_iff_eq.mpr c0 | exact decide_eq_true c0
         have C0 := Lib.hid c0
         clear c0
         go_upto_region 21 with fail; go_region; go_wp2_with fail
         go_ret
         exact ⟨by rw [HNb.out, decide_eq_true HL.out, decide_eq_true C0.out]; try rfl, HBe.out.drew⟩
       · have d0 : (x1 == y.f2) = false := by first | exact beq_eq_false_iff_ne.mpr c0 | exact decide_eq_false c0
         have C0 := Lib.hid c0
         clear c0
         go_upto_region 21 with fail; go_region; go_wp2_with fail
         go_ret
         exact ⟨by rw [HNb.out, decide_eq_true HL.out, decide_eq_false (show ¬ (x1 = y.f2) by first | exact C0.out | (have := C0.out; omega))]; simp, HBe.out.drew⟩
     · have l0 : ((ws.length : Int) == 2) = false := beq_eq_false_iff_ne.mpr (by omega)
       have HL := Lib.hid hl
       clear hl
       go_upto_region 21 with fail; go_region; go_wp2_with fail
       go_ret
       exact ⟨by rw [HNb.out, decide_eq_false HL.out]; simp, HBe.out.drew⟩
   · have hnb : nodeB ws y = (decide (ws.length = 1) && (decide (ws.getD 0 0 = y.f2) && (decide (1 ≤ y.f7) && decide (y.f7 ≤ 1048576)))) := by unfold nodeB; rw [if_neg (by omega), if_neg (by omega), if_neg (by omega), if_neg (by omega), if_neg (by omega), if_neg (by omega), if_neg (by omega), if_pos hk]
     have HNb := Lib.hid hnb
     have e1 : (y.f0 == 1) = false := by rw [hk]; rfl
     have e2 : (y.f0 == 2) = false := by rw [hk]; rfl
     have e3 : (y.f0 == 3) = false := by rw [hk]; rfl
     have e4 : (y.f0 == 4) = false := by rw [hk]; rfl
     have e5 : (y.f0 == 5) = false := by rw [hk]; rfl
     have e6 : (y.f0 == 6) = false := by rw [hk]; rfl
     have e7 : (y.f0 == 7) = false := by rw [hk]; rfl
     have e8 : (y.f0 == 8) = true := by rw [hk]; rfl
     clear hk hnb
     by_cases hl : ws.length = 1
     · have l0 : ((ws.length : Int) == 1) = true := by rw [hl]; rfl
       have w0 := HWd.out 0 (by omega) (by omega)
       have HL := Lib.hid hl
       have hlI : (ws.length : Int) = 1 := by omega
       clear hl
       generalize ws.getD 0 0 = x0 at *
       by_cases c0 : x0 = y.f2
       · have d0 : (x0 == y.f2) = true := by first | exact beq_iff_eq.mpr c0 | exact decide_eq_true c0
         have C0 := Lib.hid c0
         clear c0
         by_cases c1 : 1 ≤ y.f7
         · have d1 : (decide (y.f7 ≥ 1)) = true := by first | exact beq_iff_eq.mpr c1 | exact decide_eq_true c1
           have C1 := Lib.hid c1
           by_cases c2 : y.f7 ≤ 1048576
           · have d2 : (decide (y.f7 ≤ 1048576)) = true := by first | exact beq_iff_eq.mpr c2 | exact decide_eq_true c2
             have C2 := Lib.hid c2
             go_upto_region 23 with fail; go_region; go_wp2_with fail
             go_ret
             exact ⟨by rw [HNb.out, decide_eq_true HL.out, decide_eq_true C0.out, decide_eq_true C1.out, decide_eq_true C2.out]; try rfl, HBe.out.drew⟩
           · have d2 : (decide (y.f7 ≤ 1048576)) = false := by first | exact beq_eq_false_iff_ne.mpr c2 | exact decide_eq_false c2
             have C2 := Lib.hid c2
             have c2b : 1048576 < y.f7 := by omega
             clear c2
             go_upto_region 23 with fail; go_region; go_wp2_with fail
             go_ret
             exact ⟨by rw [HNb.out, decide_eq_true HL.out, decide_eq_true C0.out, decide_eq_true C1.out, decide_eq_false (show ¬ (y.f7 ≤ 1048576) by first | exact C2.out | (have := C2.out; omega))]; simp, HBe.out.drew⟩
         · have d1 : (decide (y.f7 ≥ 1)) = false := by first | exact beq_eq_false_iff_ne.mpr c1 | exact decide_eq_false c1
           have C1 := Lib.hid c1
           have c1b : y.f7 < 1 := by omega
           clear c1
           go_upto_region 23 with fail; go_region; go_wp2_with fail
           go_ret
           exact ⟨by rw [HNb.out, decide_eq_true HL.out, decide_eq_true C0.out, decide_eq_false (show ¬ (1 ≤ y.f7) by first | exact C1.out | (have := C1.out; omega))]; simp, HBe.out.drew⟩
       · have d0 : (x0 == y.f2) = false := by first | exact beq_eq_false_iff_ne.mpr c0 | exact decide_eq_false c0
         have C0 := Lib.hid c0
         clear c0
         go_upto_region 23 with fail; go_region; go_wp2_with fail
         go_ret
         exact ⟨by rw [HNb.out, decide_eq_true HL.out, decide_eq_false (show ¬ (x0 = y.f2) by first | exact C0.out | (have := C0.out; omega))]; simp, HBe.out.drew⟩
     · have l0 : ((ws.length : Int) == 1) = false := beq_eq_false_iff_ne.mpr (by omega)
       have HL := Lib.hid hl
       clear hl
       go_upto_region 23 with fail; go_region; go_wp2_with fail
       go_ret
       exact ⟨by rw [HNb.out, decide_eq_false HL.out]; simp, HBe.out.drew⟩
   · have hnb : nodeB ws y = (false) := by unfold nodeB; rw [if_neg (by omega), if_neg (by omega), if_neg (by omega), if_neg (by omega), if_neg (by omega), if_neg (by omega), if_neg (by omega), if_neg (by omega)]
     have HNb := Lib.hid hnb
     have e1 : (y.f0 == 1) = false := beq_eq_false_iff_ne.mpr (by omega)
     have e2 : (y.f0 == 2) = false := beq_eq_false_iff_ne.mpr (by omega)
     have e3 : (y.f0 == 3) = false := beq_eq_false_iff_ne.mpr (by omega)
     have e4 : (y.f0 == 4) = false := beq_eq_false_iff_ne.mpr (by omega)
     have e5 : (y.f0 == 5) = false := beq_eq_false_iff_ne.mpr (by omega)
     have e6 : (y.f0 == 6) = false := beq_eq_false_iff_ne.mpr (by omega)
     have e7 : (y.f0 == 7) = false := beq_eq_false_iff_ne.mpr (by omega)
     have e8 : (y.f0 == 8) = false := beq_eq_false_iff_ne.mpr (by omega)
     clear hk hnb
     go_wp2_with fail
     go_ret
     exact ⟨by rw [HNb.out]; try rfl, HBe.out⟩
end Go.Proofs.YtonnmkhmhndalaaDoor
