/- Which nodes may be, as the document has it, walked. Which netlists may be, as the document has it, walked. Levels as the document has them, walked: each node is put behind those that it hangs on, again and again. -/
import Derived.Test.YtonnmkhmhndalaaDoorZs
import Derived.Test.YtonnmkhmhndalaaDoorZc
import Derived.Test.YtonnmkhmhndalaaDoorZa
section
namespace Go.Proofs.YtonnmkhmhndalaaDoor
set_option linter.unusedVariables false
set_option linter.unusedSimpArgs false
open Go.RowKit Go.Proofs.YtonnmkhmhndalaaDoorW.PrintWords Go.Proofs.YtonnmkhmhndalaaDoorW.PrintLast Go.Proofs.YtonnmkhmhndalaaDoorW.PrintMore
def wF (ws : List Int) (i : Nat) : Nat → Int := fun j => if j < i then ws.getD j 0 else 0
theorem wF_succ (ws : List Int) (i : Nat) : upd (wF ws i) i (ws.getD i 0) = wF ws (i + 1) := by
  funext j
  unfold upd wF
  by_cases e : j = i
  · subst e; rw [if_pos rfl, if_pos (by omega)]
  · rw [if_neg e]
    by_cases e2 : j < i
    · rw [if_pos e2, if_pos (by omega)]
    · rw [if_neg e2, if_neg (by omega)]
theorem Cl.below2 {β : Type} {enc : β → Value} {W W' : World} {b n : Nat} {f : Nat → β} (h : Cl enc W b n f) (hb : Below W.heap.size W W') : Cl enc W' b n f := h.below hb h.s
set_option maxRecDepth 100000 in
set_option maxHeartbeats 8000000 in
theorem node_any (x : NL) (A : Option Addr) (c : Nat) (B : Option Addr) (d : Nat) (y : S39) (A3 : Option Addr) (c3 : Nat) (w : World) (hI : NIn w x A c B d) (hC : Kd.C (Kd.int .i64) w A3 y.f3.length y.f3) (hc : y.f3.length ≤ c3) (hY : YOk x y) (hf1 : 1 ≤ y.f2) (hf2 : y.f2 ≤ 256) :
    Calls Tryd.prog 28 #[nlV x A c B d, ndV y A3 c3] w fun e w' => e = .returned (.bool (nodeB (wsOf x.nd y) y)) ∧ Below w.heap.size w w' := by
  have HI := Lib.hid hI
  have HC := Lib.hid hC
  have HY := Lib.hid hY
  obtain ⟨ws, hws⟩ : ∃ ws, wsOf x.nd y = ws := ⟨_, rfl⟩
  have hwb : ∀ a ∈ ws, 1 ≤ a ∧ a ≤ 256 := by rw [← hws]; exact hY.ws
  have hwl : ws.length = y.f3.length := by rw [← hws]; exact wsOf_len x y
  have HWs := Lib.hid hws
  have HWb := Lib.hid hwb
  have HWl := Lib.hid hwl
  rw [hws]
  have HF := Lib.hid (And.intro hf1 hf2)
  clear hI hC hY hws hwb hwl hf1 hf2
  go_enter Tryd.func28, Tryd.ntmps28
  go_upto_region 1 with fail
  obtain ⟨W0, hW0⟩ : ∃ W, w.alloc (Obj.cells #[.slice A x.nd.length c, .slice B x.nt.length d, .int .i64 x.pt] 25) = W := ⟨_, rfl⟩
  rw [hW0]
  obtain ⟨hx0, hb0, hz0⟩ := box_list hW0
  obtain ⟨W1, hW1⟩ : ∃ W, W0.alloc (Obj.cells #[Value.int IntKind.i64 y.f0, Value.int IntKind.i64 y.f1, Value.int IntKind.i64 y.f2, Value.slice A3 y.f3.length c3, Value.string y.f4, Value.int IntKind.i64 y.f5, Value.int IntKind.i64 y.f6, Value.int IntKind.i64 y.f7] 39) = W := ⟨_, rfl⟩
  rw [hW1]
  obtain ⟨hn1, hb1⟩ := box_node (Kd.C_below HC.out hb0) hW1
  have hx1 := hx0.below hb1
  rw [hz0] at hn1
  have k3 := hn1.k3
  have hz1 : W1.heap.size = w.heap.size + 2 := by rw [← hW1]; simp; omega
  have HX1 := Lib.hid hx1
  have HN1 := Lib.hid hn1
  have HB1 := Lib.hid (hb0.trans (hb1.mono (by omega)))
  have HZ0 := Lib.hid hz0
  have HZ1 := Lib.hid hz1
  clear hx0 hb0 hz0 hb1 hn1 hx1 hz1 hW0 hW1
  obtain ⟨m, hm⟩ : ∃ m, y.f3.length = m := ⟨_, rfl⟩
  rw [hm] at k3
  have HM := Lib.hid hm
  clear hm
  go_upto_region 3 with fail
  obtain ⟨W2, hW2⟩ : ∃ W, W1.alloc (Obj.cells #[.int .i64 0, .int .i64 0, .int .i64 0] 3) = W := ⟨_, rfl⟩
  rw [hW2]
  have hcl : Cl (Value.int .i64) W2 W1.heap.size 3 (wF ws 0) := by
    refine ⟨fun j hj => ?_, fun j hj => ?_, by rw [← hW2]; simp⟩
    · have : j = 0 ∨ j = 1 ∨ j = 2 := by omega
      rcases this with rfl | rfl | rfl <;> (rw [← hW2]; simp [go_sem, wF])
    · rw [← hW2]; simp [go_sem]
  have hb2 : Below W1.heap.size W1 W2 := by rw [← hW2]; exact below_alloc (Below.refl _ _) _
  have HCl := Lib.hid hcl
  have HB2 := Lib.hid hb2
  clear hcl hb2 hW2 k3
  go_upto_block 0 with fail
  go_cut [7] (fun _ wx => Hid (∀ j, j < 3 → j < m → wx.cell? ⟨W1.heap.size, j, none⟩ = some (.int .i64 (ws.getD j 0))) ∧ Hid (Below W1.heap.size W1 wx))
  case first =>
   go_wp2_with fail
   go_loopw [7] (fun v7 wx => ∃ i : Nat, v7 = .int .i64 i ∧ i ≤ m ∧ i ≤ 3 ∧ Hid (Cl (Value.int .i64) wx W1.heap.size 3 (wF ws i)) ∧ Hid (Below W1.heap.size W1 wx)) (fun v7 _ => 3 - (intOf v7).toNat)
   case atStart => exact ⟨0, rfl, Nat.zero_le _, Nat.zero_le _, HCl, HB2⟩
   case round =>
     obtain ⟨i, rfl, hi, hi3', HCx, HBx⟩ := hrel
     by_cases hlt' : i < m ∧ i < 3
     · obtain ⟨hlt, hl3⟩ := hlt'
       have hi3 : i < y.f3.length := by rw [HM.out]; exact hlt
       have hBw : Below w.heap.size w wr := HB1.out.trans (HBx.out.mono (by have := HZ1.out; omega))
       obtain ⟨b6, o6, hA6, g6, -⟩ := ints_at (Kd.C_below HC.out hBw) i hi3
       have hmem : y.f3.getD i 0 ∈ y.f3 := by rw [List.getD_eq_getElem?_getD, List.getElem?_eq_getElem hi3]; exact List.getElem_mem _
       have hin := HY.out.i _ hmem
       obtain ⟨a, ha⟩ : ∃ a : Nat, y.f3.getD i 0 = (a : Int) := ⟨(y.f3.getD i 0).toNat, by omega⟩
       have han : a < x.nd.length := by rw [ha] at hin; omega
       rw [ha] at g6
       subst hA6
       obtain ⟨b, o, A4, c4, hA, hl4, hbs, hND⟩ := nodes_in HI.out.h0 a han
       subst hA
       have k2 := (hND _ hBw).k2
       have q0 := (HX1.out.belowB HBx.out (by have := HZ1.out; omega)).k0
       have hii : i < ws.length := by rw [HWl.out]; exact hi3
       have hwe : ws.getD i 0 = (x.nd.getD a z39).f2 := by
         have e1 : ws[i] = wAt x.nd (y.f3.getD i 0) := by
           have : ws[i]? = some (wAt x.nd y.f3[i]) := by
             rw [← HWs.out]
             unfold wsOf
             rw [List.getElem?_map, List.getElem?_eq_getElem hi3]
             rfl
           rw [List.getElem?_eq_getElem hii] at this
           rw [Option.some.inj this, List.getD_eq_getElem?_getD, List.getElem?_eq_getElem hi3]
           rfl
         rw [List.getD_eq_getElem?_getD, List.getElem?_eq_getElem hii]
         show ws[i] = _
         rw [e1, ha]
         unfold wAt
         rw [Int.toNat_natCast]
       have k3b := (HN1.out.below HBx.out).k3
       rw [HM.out] at k3b
       have c1 := HCx.out.c i hl3
       have c2 := HCx.out.f i hl3
       have hsu := wF_succ ws i
       rw [hwe] at hsu
       generalize (x.nd.getD a z39).f2 = wa at *
       have HSu := Lib.hid hsu
       have HLt := Lib.hid hlt
       have HL3 := Lib.hid hl3
       have g1 : decide ((i : Int) < (m : Int)) = true := decide_eq_true (by omega)
       have g2 : decide ((i : Int) < 3) = true := decide_eq_true (by omega)
       clear hmem hin ha hND hbs hl4 hii hBw hi3 hwe hsu
       go_upto_region 6 with fail
       go_region
       go_wp2_with fail
       refine ⟨⟨i + 1, by simp, HLt.out, HL3.out, by rw [← HSu.out]; exact Lib.hid (HCx.out.below (below_drew (Below.refl _ _)) HCx.out.s |>.set i wa), Lib.hid (below_set2 (Nat.le_refl _) HBx.out.drew)⟩, by have := HL3.out; simp [intOf]; omega⟩
     · have hwl : ws.length = m := by rw [HWl.out, HM.out]
       have hwc : ∀ j, j < 3 → j < m → wr.cell? ⟨W1.heap.size, j, none⟩ = some (.int .i64 (ws.getD j 0)) := by
         intro j hj hjm
         have h1 := HCx.out.c j hj
         unfold wF at h1
         rw [if_pos (by omega)] at h1
         exact h1
       have HWc := Lib.hid hwc
       have hc2 : ((i : Int) < (m : Int) → 3 ≤ (i : Int)) := by omega
       have k3 := (HN1.out.below HBx.out).k3
       rw [HM.out] at k3
       clear hwc hwl hlt'
       go_wp2_with fail
       all_goals
         go_meet
         exact ⟨HWc, HBx⟩
  case rest =>
   obtain ⟨HWc, HBx⟩ := hcut
   have hNx := HN1.out.below HBx.out
   have HNx := Lib.hid hNx
   obtain ⟨k0, k1, k2, k3, k4, k5, k6, k7, -⟩ := HNx.out
   have HBe := Lib.hid (HB1.out.trans (HBx.out.mono (show w.heap.size ≤ W1.heap.size by have := HZ1.out; omega)))
   have hwl : ws.length = m := by rw [HWl.out, HM.out]
   have HLm := Lib.hid hwl
   have hwc := HWc.out
   rw [← HLm.out] at hwc
   have HWd := Lib.hid hwc
   clear hNx hwl hwc k1 k5 k6
   have E2 := HLm.out
   subst E2
   have hkk : y.f0 = 1 ∨ y.f0 = 2 ∨ y.f0 = 3 ∨ y.f0 = 4 ∨ y.f0 = 5 ∨ y.f0 = 6 ∨ y.f0 = 7 ∨ y.f0 = 8 ∨ (y.f0 < 1 ∨ 8 < y.f0) := by omega
   rcases hkk with hk | hk | hk | hk | hk | hk | hk | hk | hk
   · have hnb : nodeB ws y = (decide (ws.length = 0) && (vOk y.f4 && decide ((y.f4.size : Int) = y.f2))) := by unfold nodeB; rw [if_pos hk]
     have HNb := Lib.hid hnb
     have e1 : (y.f0 == 1) = true := by rw [hk]; rfl
     clear hk hnb
     have k4 := HNx.out.k4
     by_cases hl : ws.length = 0
     · have l0 : ((ws.length : Int) == 0) = true := by rw [hl]; rfl
       have HL := Lib.hid hl
       have hlI : (ws.length : Int) = 0 := by omega
       clear hl
       have hv := fun W => may_any y.f4 W HY.out.z
       obtain ⟨vb, hvb⟩ : ∃ b, vOk y.f4 = b := ⟨_, rfl⟩
       rw [hvb] at hv
       have HV := Lib.hid hv
       have HVb := Lib.hid hvb
       clear hv hvb
       have hsw : vOk y.f4 = true → y.f4.size ≤ 256 := fun h => by unfold vOk at h; simp at h; omega
       clear hsw
       cases vb
       · skip
         go_upto_region 9 with fail
         go_wp2_with fail
         refine (HV.out _).mono ?_
         rintro e w9 ⟨rfl, mq, rfl⟩
         go_wp2_with fail
         go_ret
         exact ⟨by rw [HNb.out, HVb.out]; simp, pw_below_drewN HBe.out _⟩
       · by_cases cs : (y.f4.size : Int) = y.f2
         · have d1 : ((y.f4.size : Int) == y.f2) = true := beq_iff_eq.mpr cs
           have CS := Lib.hid cs
           clear cs
           go_upto_region 9 with fail
           go_wp2_with fail
           refine (HV.out _).mono ?_
           rintro e w9 ⟨rfl, mq, rfl⟩
           go_wp2_with fail
           go_ret
           exact ⟨by rw [HNb.out, HVb.out, decide_eq_true CS.out, decide_eq_true HL.out]; try rfl, pw_below_drewN HBe.out _⟩
         · have d1 : ((y.f4.size : Int) == y.f2) = false := beq_eq_false_iff_ne.mpr cs
           have CS := Lib.hid cs
           clear cs
           go_upto_region 9 with fail
           go_wp2_with fail
           refine (HV.out _).mono ?_
           rintro e w9 ⟨rfl, mq, rfl⟩
           go_wp2_with fail
           go_ret
           exact ⟨by rw [HNb.out, decide_eq_false CS.out]; simp, pw_below_drewN HBe.out _⟩
     · have l0 : ((ws.length : Int) == 0) = false := beq_eq_false_iff_ne.mpr (by omega)
       have HL := Lib.hid hl
       clear hl
       go_wp2_with fail
       go_ret
       exact ⟨by rw [HNb.out, decide_eq_false HL.out]; simp, HBe.out⟩
   · have hnb : nodeB ws y = (decide (ws.length = 0)) := by unfold nodeB; rw [if_neg (by omega), if_pos hk]
     have HNb := Lib.hid hnb
     have e1 : (y.f0 == 1) = false := by rw [hk]; rfl
     have e2 : (y.f0 == 2) = true := by rw [hk]; rfl
     clear hk hnb
     by_cases hl : ws.length = 0
     · have l0 : ((ws.length : Int) == 0) = true := by rw [hl]; rfl
       have HL := Lib.hid hl
       clear hl
       go_wp2_with fail
       go_ret
       exact ⟨by rw [HNb.out, decide_eq_true HL.out]; try rfl, HBe.out⟩
     · have l0 : ((ws.length : Int) == 0) = false := beq_eq_false_iff_ne.mpr (by omega)
       have HL := Lib.hid hl
       clear hl
       go_wp2_with fail
       go_ret
       exact ⟨by rw [HNb.out, decide_eq_false HL.out]; try rfl, HBe.out⟩
   · have hnb : nodeB ws y = (decide (opW y.f1 y.f5 y.f6 ws = y.f2)) := by unfold nodeB; rw [if_neg (by omega), if_neg (by omega), if_pos hk]
     have HNb := Lib.hid hnb
     have e1 : (y.f0 == 1) = false := by rw [hk]; rfl
     have e2 : (y.f0 == 2) = false := by rw [hk]; rfl
     have e3 : (y.f0 == 3) = true := by rw [hk]; rfl
     obtain ⟨j0, j1, j2, j3, j4, j5, j6, j7, jC⟩ := HNx.out
     obtain ⟨i0, i1, i2⟩ := HX1.out.below HBx.out
     have hop : ∀ p : BelowBy wc, Calls Tryd.prog 49 #[nlV x A c B d, ndV y A3 c3] p.W fun e w' => e = .returned (.int .i64 (opR y.f1 y.f5 y.f6 ws)) ∧ Below p.W.heap.size p.W w' := by
       intro p
       have h9 := oper_any x A c B d y A3 c3 p.W (HI.out.below (HBe.out.trans (p.h.mono HBe.out.size))) (Kd.C_below jC p.h) hc HY.out
       rw [HWs.out] at h9
       exact h9
     have how := opR_opW y.f1 y.f5 y.f6 y.f2 ws HWb.out HF.out.1 HF.out.2
     generalize opR y.f1 y.f5 y.f6 ws = ow at *
     have HOp := Lib.hid hop
     have HOw := Lib.hid how
     have n0 : ∀ p : BelowBy wc, p.W.cell? ⟨w.heap.size, 0, none⟩ = some (.slice A x.nd.length c) := fun p => p.cell i0
     have n1 : ∀ p : BelowBy wc, p.W.cell? ⟨w.heap.size, 1, none⟩ = some (.slice B x.nt.length d) := fun p => p.cell i1
     have n2 : ∀ p : BelowBy wc, p.W.cell? ⟨w.heap.size, 2, none⟩ = some (.int .i64 x.pt) := fun p => p.cell i2
     have p0 : ∀ p : BelowBy wc, p.W.cell? ⟨w.heap.size + 1, 0, none⟩ = some (.int .i64 y.f0) := fun p => p.cell j0
     have p1 : ∀ p : BelowBy wc, p.W.cell? ⟨w.heap.size + 1, 1, none⟩ = some (.int .i64 y.f1) := fun p => p.cell j1
     have p2 : ∀ p : BelowBy wc, p.W.cell? ⟨w.heap.size + 1, 2, none⟩ = some (.int .i64 y.f2) := fun p => p.cell j2
     have p3 : ∀ p : BelowBy wc, p.W.cell? ⟨w.heap.size + 1, 3, none⟩ = some (.slice A3 y.f3.length c3) := fun p => p.cell j3
     have p4 : ∀ p : BelowBy wc, p.W.cell? ⟨w.heap.size + 1, 4, none⟩ = some (.string y.f4) := fun p => p.cell j4
     have p5 : ∀ p : BelowBy wc, p.W.cell? ⟨w.heap.size + 1, 5, none⟩ = some (.int .i64 y.f5) := fun p => p.cell j5
     have p6 : ∀ p : BelowBy wc, p.W.cell? ⟨w.heap.size + 1, 6, none⟩ = some (.int .i64 y.f6) := fun p => p.cell j6
     have p7 : ∀ p : BelowBy wc, p.W.cell? ⟨w.heap.size + 1, 7, none⟩ = some (.int .i64 y.f7) := fun p => p.cell j7
     clear hk hnb hop how i0 i1 i2 j0 j1 j2 j3 j4 j5 j6 j7 jC k2 k3 k4 k7
     by_cases cq : ow = y.f2
     · have d1 : (ow == y.f2) = true := beq_iff_eq.mpr cq
       have CQ := Lib.hid cq
       clear cq
       go_upto_region 13 with fail
       refine region_below (by kernel_rfl) (by kernel_rfl) ?_
       repeat (quiet_step (with_reducible first | exact call_below _ (HOp.out _) | fail))
       refine wpQuiet_nil ?_
       rintro _ ⟨p, rfl⟩
       go_wp2_with fail
       go_ret
       exact ⟨by rw [HNb.out, ← HOw.out, decide_eq_true CQ.out]; try rfl, HBe.out.trans (p.h.mono HBe.out.size)⟩
     · have d1 : (ow == y.f2) = false := beq_eq_false_iff_ne.mpr cq
       have CQ := Lib.hid cq
       clear cq
       go_upto_region 13 with fail
       refine region_below (by kernel_rfl) (by kernel_rfl) ?_
       repeat (quiet_step (with_reducible first | exact call_below _ (HOp.out _) | fail))
       refine wpQuiet_nil ?_
       rintro _ ⟨p, rfl⟩
       go_wp2_with fail
       go_ret
       exact ⟨by rw [HNb.out, ← HOw.out, decide_eq_false CQ.out]; try rfl, HBe.out.trans (p.h.mono HBe.out.size)⟩
   · have hnb : nodeB ws y = (decide (ws.length = 3) && (decide (ws.getD 1 0 = y.f2) && decide (ws.getD 2 0 = y.f2))) := by unfold nodeB; rw [if_neg (by omega), if_neg (by omega), if_neg (by omega), if_pos hk]
     have HNb := Lib.hid hnb
     have e1 : (y.f0 == 1) = false := by rw [hk]; rfl
     have e2 : (y.f0 == 2) = false := by rw [hk]; rfl
     have e3 : (y.f0 == 3) = false := by rw [hk]; rfl
     have e4 : (y.f0 == 4) = true := by rw [hk]; rfl
     clear hk hnb
     by_cases hl : ws.length = 3
     · have l0 : ((ws.length : Int) == 3) = true := by rw [hl]; rfl
       have w0 := HWd.out 0 (by omega) (by omega)
       have w1 := HWd.out 1 (by omega) (by omega)
       have w2 := HWd.out 2 (by omega) (by omega)
       have HL := Lib.hid hl
       have hlI : (ws.length : Int) = 3 := by omega
       clear hl
       generalize ws.getD 0 0 = x0 at *
       generalize ws.getD 1 0 = x1 at *
       generalize ws.getD 2 0 = x2 at *
       by_cases c0 : x1 = y.f2
       · have d0 : (x1 == y.f2) = true := by first | exact beq_iff_eq.mpr c0 | exact decide_eq_true c0
         have C0 := Lib.hid c0
         clear c0
         by_cases c1 : x2 = y.f2
         · have d1 : (x2 == y.f2) = true := by first | exact beq_iff_eq.mpr c1 | exact decide_eq_true c1
           have C1 := Lib.hid c1
           clear c1
           go_upto_region 15 with fail; go_region; go_wp2_with fail
           go_ret
           exact ⟨by rw [HNb.out, decide_eq_true HL.out, decide_eq_true C0.out, decide_eq_true C1.out]; try rfl, HBe.out.drew⟩
         · have d1 : (x2 == y.f2) = false := by first | exact beq_eq_false_iff_ne.mpr c1 | exact decide_eq_false c1
           have C1 := Lib.hid c1
           clear c1
           go_upto_region 15 with fail; go_region; go_wp2_with fail
           go_ret
           exact ⟨by rw [HNb.out, decide_eq_true HL.out, decide_eq_true C0.out, decide_eq_false (show ¬ (x2 = y.f2) by first | exact C1.out | (have := C1.out; omega))]; simp, HBe.out.drew⟩
       · have d0 : (x1 == y.f2) = false := by first | exact beq_eq_false_iff_ne.mpr c0 | exact decide_eq_false c0
         have C0 := Lib.hid c0
         clear c0
         go_upto_region 15 with fail; go_region; go_wp2_with fail
         go_ret
         exact ⟨by rw [HNb.out, decide_eq_true HL.out, decide_eq_false (show ¬ (x1 = y.f2) by first | exact C0.out | (have := C0.out; omega))]; simp, HBe.out.drew⟩
     · have l0 : ((ws.length : Int) == 3) = false := beq_eq_false_iff_ne.mpr (by omega)
       have HL := Lib.hid hl
       clear hl
       go_upto_region 15 with fail; go_region; go_wp2_with fail
       go_ret
       exact ⟨by rw [HNb.out, decide_eq_false HL.out]; simp, HBe.out.drew⟩
   · have hnb : nodeB ws y = (decide (ws.length = 2) && (decide (ws.getD 0 0 = ws.getD 1 0) && decide (y.f2 = 1))) := by unfold nodeB; rw [if_neg (by omega), if_neg (by omega), if_neg (by omega), if_neg (by omega), if_pos hk]
     have HNb := Lib.hid hnb
     have e1 : (y.f0 == 1) = false := by rw [hk]; rfl
     have e2 : (y.f0 == 2) = false := by rw [hk]; rfl
     have e3 : (y.f0 == 3) = false := by rw [hk]; rfl
     have e4 : (y.f0 == 4) = false := by rw [hk]; rfl
     have e5 : (y.f0 == 5) = true := by rw [hk]; rfl
     clear hk hnb
     by_cases hl : ws.length = 2
     · have l0 : ((ws.length : Int) == 2) = true := by rw [hl]; rfl
       have w0 := HWd.out 0 (by omega) (by omega)
       have w1 := HWd.out 1 (by omega) (by omega)
       have HL := Lib.hid hl
       have hlI : (ws.length : Int) = 2 := by omega
       clear hl
       generalize ws.getD 0 0 = x0 at *
       generalize ws.getD 1 0 = x1 at *
       by_cases c0 : x0 = x1
       · have d0 : (x0 == x1) = true := by first | exact beq_iff_eq.mpr c0 | exact decide_eq_true c0
         have C0 := Lib.hid c0
         clear c0
         by_cases c1 : y.f2 = 1
         · have d1 : (y.f2 == 1) = true := by first | exact beq_iff_eq.mpr c1 | exact decide_eq_true c1
           have C1 := Lib.hid c1
           clear c1
           go_upto_region 17 with fail; go_region; go_wp2_with fail
           go_ret
           exact ⟨by rw [HNb.out, decide_eq_true HL.out, decide_eq_true C0.out, decide_eq_true C1.out]; try rfl, HBe.out.drew⟩
         · have d1 : (y.f2 == 1) = false := by first | exact beq_eq_false_iff_ne.mpr c1 | exact decide_eq_false c1
           have C1 := Lib.hid c1
           clear c1
           go_upto_region 17 with fail; go_region; go_wp2_with fail
           go_ret
           exact ⟨by rw [HNb.out, decide_eq_true HL.out, decide_eq_true C0.out, decide_eq_false (show ¬ (y.f2 = 1) by first | exact C1.out | (have := C1.out; omega))]; simp, HBe.out.drew⟩
       · have d0 : (x0 == x1) = false := by first | exact beq_eq_false_iff_ne.mpr c0 | exact decide_eq_false c0
         have C0 := Lib.hid c0
         clear c0
         go_upto_region 17 with fail; go_region; go_wp2_with fail
         go_ret
         exact ⟨by rw [HNb.out, decide_eq_true HL.out, decide_eq_false (show ¬ (x0 = x1) by first | exact C0.out | (have := C0.out; omega))]; simp, HBe.out.drew⟩
     · have l0 : ((ws.length : Int) == 2) = false := beq_eq_false_iff_ne.mpr (by omega)
       have HL := Lib.hid hl
       clear hl
       go_upto_region 17 with fail; go_region; go_wp2_with fail
       go_ret
       exact ⟨by rw [HNb.out, decide_eq_false HL.out]; simp, HBe.out.drew⟩
   · have hnb : nodeB ws y = (decide (ws.length = 1)) := by unfold nodeB; rw [if_neg (by omega), if_neg (by omega), if_neg (by omega), if_neg (by omega), if_neg (by omega), if_pos hk]
     have HNb := Lib.hid hnb
     have e1 : (y.f0 == 1) = false := by rw [hk]; rfl
     have e2 : (y.f0 == 2) = false := by rw [hk]; rfl
     have e3 : (y.f0 == 3) = false := by rw [hk]; rfl
     have e4 : (y.f0 == 4) = false := by rw [hk]; rfl
     have e5 : (y.f0 == 5) = false := by rw [hk]; rfl
     have e6 : (y.f0 == 6) = true := by rw [hk]; rfl
     clear hk hnb
     by_cases hl : ws.length = 1
     · have l0 : ((ws.length : Int) == 1) = true := by rw [hl]; rfl
       have HL := Lib.hid hl
       clear hl
       go_wp2_with fail
       go_ret
       exact ⟨by rw [HNb.out, decide_eq_true HL.out]; try rfl, HBe.out⟩
     · have l0 : ((ws.length : Int) == 1) = false := beq_eq_false_iff_ne.mpr (by omega)
       have HL := Lib.hid hl
       clear hl
       go_wp2_with fail
       go_ret
       exact ⟨by rw [HNb.out, decide_eq_false HL.out]; try rfl, HBe.out⟩
   · have hnb : nodeB ws y = (decide (ws.length = 2) && decide (ws.getD 1 0 = y.f2)) := by unfold nodeB; rw [if_neg (by omega), if_neg (by omega), if_neg (by omega), if_neg (by omega), if_neg (by omega), if_neg (by omega), if_pos hk]
     have HNb := Lib.hid hnb
     have e1 : (y.f0 == 1) = false := by rw [hk]; rfl
     have e2 : (y.f0 == 2) = false := by rw [hk]; rfl
     have e3 : (y.f0 == 3) = false := by rw [hk]; rfl
     have e4 : (y.f0 == 4) = false := by rw [hk]; rfl
     have e5 : (y.f0 == 5) = false := by rw [hk]; rfl
     have e6 : (y.f0 == 6) = false := by rw [hk]; rfl
     have e7 : (y.f0 == 7) = true := by rw [hk]; rfl
     clear hk hnb
     by_cases hl : ws.length = 2
     · have l0 : ((ws.length : Int) == 2) = true := by rw [hl]; rfl
       have w0 := HWd.out 0 (by omega) (by omega)
       have w1 := HWd.out 1 (by omega) (by omega)
       have HL := Lib.hid hl
       have hlI : (ws.length : Int) = 2 := by omega
       clear hl
       generalize ws.getD 0 0 = x0 at *
       generalize ws.getD 1 0 = x1 at *
       by_cases c0 : x1 = y.f2
       · have d0 : (x1 == y.f2) = true := by first | exact beq_iff_eq.mpr c0 | exact decide_eq_true c0
         have C0 := Lib.hid c0
         clear c0
         go_upto_region 21 with fail; go_region; go_wp2_with fail
         go_ret
         exact ⟨by rw [HNb.out, decide_eq_true HL.out, decide_eq_true C0.out]; try rfl, HBe.out.drew⟩
       · have d0 : (x1 == y.f2) = false := by first | exact beq_eq_false_iff_ne.mpr c0 | exact decide_eq_false c0
         have C0 := Lib.hid c0
         clear c0
         go_upto_region 21 with fail; go_region; go_wp2_with fail
         go_ret
         exact ⟨by rw [HNb.out, decide_eq_true HL.out, decide_eq_false (show ¬ (x1 = y.f2) by first | exact C0.out | (have := C0.out; omega))]; simp, HBe.out.drew⟩
     · have l0 : ((ws.length : Int) == 2) = false := beq_eq_false_iff_ne.mpr (by omega)
       have HL := Lib.hid hl
       clear hl
       go_upto_region 21 with fail; go_region; go_wp2_with fail
       go_ret
       exact ⟨by rw [HNb.out, decide_eq_false HL.out]; simp, HBe.out.drew⟩
   · have hnb : nodeB ws y = (decide (ws.length = 1) && (decide (ws.getD 0 0 = y.f2) && (decide (1 ≤ y.f7) && decide (y.f7 ≤ 1048576)))) := by unfold nodeB; rw [if_neg (by omega), if_neg (by omega), if_neg (by omega), if_neg (by omega), if_neg (by omega), if_neg (by omega), if_neg (by omega), if_pos hk]
     have HNb := Lib.hid hnb
     have e1 : (y.f0 == 1) = false := by rw [hk]; rfl
     have e2 : (y.f0 == 2) = false := by rw [hk]; rfl
     have e3 : (y.f0 == 3) = false := by rw [hk]; rfl
     have e4 : (y.f0 == 4) = false := by rw [hk]; rfl
     have e5 : (y.f0 == 5) = false := by rw [hk]; rfl
     have e6 : (y.f0 == 6) = false := by rw [hk]; rfl
     have e7 : (y.f0 == 7) = false := by rw [hk]; rfl
     have e8 : (y.f0 == 8) = true := by rw [hk]; rfl
     clear hk hnb
     by_cases hl : ws.length = 1
     · have l0 : ((ws.length : Int) == 1) = true := by rw [hl]; rfl
       have w0 := HWd.out 0 (by omega) (by omega)
       have HL := Lib.hid hl
       have hlI : (ws.length : Int) = 1 := by omega
       clear hl
       generalize ws.getD 0 0 = x0 at *
       by_cases c0 : x0 = y.f2
       · have d0 : (x0 == y.f2) = true := by first | exact beq_iff_eq.mpr c0 | exact decide_eq_true c0
         have C0 := Lib.hid c0
         clear c0
         by_cases c1 : 1 ≤ y.f7
         · have d1 : (decide (y.f7 ≥ 1)) = true := by first | exact beq_iff_eq.mpr c1 | exact decide_eq_true c1
           have C1 := Lib.hid c1
           by_cases c2 : y.f7 ≤ 1048576
           · have d2 : (decide (y.f7 ≤ 1048576)) = true := by first | exact beq_iff_eq.mpr c2 | exact decide_eq_true c2
             have C2 := Lib.hid c2
             go_upto_region 23 with fail; go_region; go_wp2_with fail
             go_ret
             exact ⟨by rw [HNb.out, decide_eq_true HL.out, decide_eq_true C0.out, decide_eq_true C1.out, decide_eq_true C2.out]; try rfl, HBe.out.drew⟩
           · have d2 : (decide (y.f7 ≤ 1048576)) = false := by first | exact beq_eq_false_iff_ne.mpr c2 | exact decide_eq_false c2
             have C2 := Lib.hid c2
             have c2b : 1048576 < y.f7 := by omega
             clear c2
             go_upto_region 23 with fail; go_region; go_wp2_with fail
             go_ret
             exact ⟨by rw [HNb.out, decide_eq_true HL.out, decide_eq_true C0.out, decide_eq_true C1.out, decide_eq_false (show ¬ (y.f7 ≤ 1048576) by first | exact C2.out | (have := C2.out; omega))]; simp, HBe.out.drew⟩
         · have d1 : (decide (y.f7 ≥ 1)) = false := by first | exact beq_eq_false_iff_ne.mpr c1 | exact decide_eq_false c1
           have C1 := Lib.hid c1
           have c1b : y.f7 < 1 := by omega
           clear c1
           go_upto_region 23 with fail; go_region; go_wp2_with fail
           go_ret
           exact ⟨by rw [HNb.out, decide_eq_true HL.out, decide_eq_true C0.out, decide_eq_false (show ¬ (1 ≤ y.f7) by first | exact C1.out | (have := C1.out; omega))]; simp, HBe.out.drew⟩
       · have d0 : (x0 == y.f2) = false := by first | exact beq_eq_false_iff_ne.mpr c0 | exact decide_eq_false c0
         have C0 := Lib.hid c0
         clear c0
         go_upto_region 23 with fail; go_region; go_wp2_with fail
         go_ret
         exact ⟨by rw [HNb.out, decide_eq_true HL.out, decide_eq_false (show ¬ (x0 = y.f2) by first | exact C0.out | (have := C0.out; omega))]; simp, HBe.out.drew⟩
     · have l0 : ((ws.length : Int) == 1) = false := beq_eq_false_iff_ne.mpr (by omega)
       have HL := Lib.hid hl
       clear hl
       go_upto_region 23 with fail; go_region; go_wp2_with fail
       go_ret
       exact ⟨by rw [HNb.out, decide_eq_false HL.out]; simp, HBe.out.drew⟩
   · have hnb : nodeB ws y = (false) := by unfold nodeB; rw [if_neg (by omega), if_neg (by omega), if_neg (by omega), if_neg (by omega), if_neg (by omega), if_neg (by omega), if_neg (by omega), if_neg (by omega)]
     have HNb := Lib.hid hnb
     have e1 : (y.f0 == 1) = false := beq_eq_false_iff_ne.mpr (by omega)
     have e2 : (y.f0 == 2) = false := beq_eq_false_iff_ne.mpr (by omega)
     have e3 : (y.f0 == 3) = false := beq_eq_false_iff_ne.mpr (by omega)
     have e4 : (y.f0 == 4) = false := beq_eq_false_iff_ne.mpr (by omega)
     have e5 : (y.f0 == 5) = false := beq_eq_false_iff_ne.mpr (by omega)
     have e6 : (y.f0 == 6) = false := beq_eq_false_iff_ne.mpr (by omega)
     have e7 : (y.f0 == 7) = false := beq_eq_false_iff_ne.mpr (by omega)
     have e8 : (y.f0 == 8) = false := beq_eq_false_iff_ne.mpr (by omega)
     clear hk hnb
     go_wp2_with fail
     go_ret
     exact ⟨by rw [HNb.out]; try rfl, HBe.out⟩
end Go.Proofs.YtonnmkhmhndalaaDoor
end
section
namespace Go.Proofs.YtonnmkhmhndalaaDoor
set_option linter.unusedVariables false
set_option linter.unusedSimpArgs false
open Go.RowKit Go.Proofs.YtonnmkhmhndalaaDoorW.PrintWords Go.Proofs.YtonnmkhmhndalaaDoorW.PrintLast Go.Proofs.YtonnmkhmhndalaaDoorW.PrintMore
attribute [local irreducible] wpQuiet
theorem zero_any (y : S39) (A3 : Option Addr) (c3 : Nat) (W : World) (hC : Kd.C (Kd.int .i64) W A3 y.f3.length y.f3) (hc : y.f3.length ≤ c3) :
    Calls Tryd.prog 27 #[ndV y A3 c3] W fun e w' => e = .returned (.bool (zeroB y)) ∧ Below W.heap.size W w' :=
  silkwormref09_zero.calls _ _ _ A3 c3 y.f3 _ _ _ _ _ W hC hc (zero_f y)
def cntN (nt : List Int) (k : Nat) : Nat → Nat := fun j => (nt.take k).count (j : Int)
theorem cntN_succ (nt : List Int) (k a : Nat) (h : k < nt.length) (ha : nt.getD k 0 = (a : Int)) : upd (cntN nt k) a (cntN nt k a + 1) = cntN nt (k + 1) := by
  have e : nt[k] = (a : Int) := by rw [List.getD_eq_getElem?_getD, List.getElem?_eq_getElem h] at ha; exact ha
  funext j
  unfold upd cntN
  rw [List.take_succ_eq_append_getElem h, e, List.count_append]
  by_cases hj : j = a
  · subst hj
    rw [if_pos rfl]
    simp
  · rw [if_neg hj, List.count_cons]
    have : ((a : Int) == (j : Int)) = false := beq_eq_false_iff_ne.mpr (by omega)
    rw [this]
    simp
theorem cntN_le (nt : List Int) (k j : Nat) : cntN nt k j ≤ k := by
  unfold cntN
  have h1 := List.count_le_length (a := (j : Int)) (l := nt.take k)
  have h2 : (nt.take k).length ≤ k := List.length_take_le _ _
  omega
set_option maxRecDepth 100000 in
set_option maxHeartbeats 8000000 in
theorem mayR_any (x : NL) (A : Option Addr) (c : Nat) (B : Option Addr) (d : Nat) (w : World) (hI : NIn w x A c B d) :
    Calls Tryd.prog 14 #[nlV x A c B d] w fun e w' => e = .returned (.bool (mayL x)) ∧ Below w.heap.size w w' := by
  have HI := Lib.hid hI
  obtain ⟨n, hn⟩ : ∃ n, x.nd.length = n := ⟨_, rfl⟩
  obtain ⟨m, hm⟩ : ∃ m, x.nt.length = m := ⟨_, rfl⟩
  obtain ⟨ans, hans⟩ : ∃ b, mayL x = b := ⟨_, rfl⟩
  have hmb : m * 8 ≤ 140737488355328 := by rw [← hm]; exact hI.b1
  have HNo : Hid (¬ MayP x → ans = false) := Lib.hid (fun h => by rw [← hans]; exact may_no h)
  have HYes : Hid (MayP x → ans = true) := Lib.hid (fun h => by rw [← hans]; exact (may_iff x).2 h)
  rw [hans]
  have HN := Lib.hid hn
  have HM := Lib.hid hm
  clear hI hans
  go_enter Tryd.func14, Tryd.ntmps14
  go_upto_region 1 with fail
  obtain ⟨W0, hW0⟩ : ∃ W, w.alloc (Obj.cells #[.slice A n c, .slice B m d, .int .i64 x.pt] 25) = W := ⟨_, rfl⟩
  rw [hW0]
  obtain ⟨hx0, hb0, hz0⟩ := box_list hW0
  have HX0 := Lib.hid hx0
  obtain ⟨q0, q1, q2⟩ := HX0.out
  have HB0 := Lib.hid hb0
  have HZ0 := Lib.hid hz0
  have hzz : w.heap.size < W0.heap.size := by omega
  clear hx0 hb0 hz0 hW0 hn hm
  by_cases hn4 : n ≤ 4096
  · by_cases hp : x.pt = (m : Int)
    · have d1 : (x.pt != (m : Int)) = false := bne_eq_false_iff_eq.mpr hp
      have HP := Lib.hid hp
      clear hp
      go_upto_region 4 with fail
      clear q0 q1 q2 d1
      go_wp2_with fail
      go_loopw [4] (fun v4 wx => ∃ i : Nat, v4 = .int .i64 i ∧ i ≤ n ∧ Hid (∀ k, k < i → wideB x.nd.length (nAt x k) = true ∧ zeroB (nAt x k) = true) ∧ Hid (Below W0.heap.size W0 wx)) (fun v4 _ => n - (intOf v4).toNat)
      case atStart => exact ⟨0, rfl, Nat.zero_le _, Lib.hid (fun k hk => absurd hk (Nat.not_lt_zero _)), Lib.hid (Below.refl _ _)⟩
      case round =>
        obtain ⟨i, rfl, hi, HWi, HBx⟩ := hrel
        have hxx := HX0.out.belowB HBx.out hzz
        have HXx := Lib.hid hxx
        obtain ⟨q0, q1, q2⟩ := HXx.out
        have HBw := Lib.hid (HB0.out.trans (HBx.out.mono (Nat.le_of_lt hzz)))
        clear hxx
        by_cases hlt : i < n
        · have hk' : i < x.nd.length := by rw [HN.out]; exact hlt
          obtain ⟨b, o, A3, c3, hA, hl3, hbs, hND⟩ := nodes_in HI.out.h0 i hk'
          subst hA
          obtain ⟨y, hy⟩ : ∃ y, x.nd.getD i z39 = y := ⟨_, rfl⟩
          rw [hy] at hl3 hND
          have hyn : nAt x i = y := hy
          have hyb : y.f3.length * 8 ≤ 140737488355328 := by rw [← hy]; exact HI.out.b0 _ (by rw [List.getD_eq_getElem?_getD, List.getElem?_eq_getElem hk']; exact List.getElem_mem _)
          have HYb := Lib.hid hyb
          obtain ⟨h0, h1, h2, h3, h4, h5, h6, h7, hC3⟩ := hND _ HBw.out
          have HC3 := Lib.hid hC3
          have HY := Lib.hid hyn
          have HND := Lib.hid hND
          have HLt := Lib.hid hlt
          clear hk' hbs hND hy hyn hC3 hyb
          go_upto_region 8 with fail
          obtain ⟨W5, hW5⟩ : ∃ W, wr.alloc (Obj.cells #[Value.int IntKind.i64 y.f0, Value.int IntKind.i64 y.f1, Value.int IntKind.i64 y.f2, Value.slice A3 y.f3.length c3, Value.string y.f4, Value.int IntKind.i64 y.f5, Value.int IntKind.i64 y.f6, Value.int IntKind.i64 y.f7] 39) = W := ⟨_, rfl⟩
          rw [hW5]
          obtain ⟨hn5, hb5⟩ := box_node HC3.out hW5
          have HN5 := Lib.hid hn5
          obtain ⟨z0, z1, z2, z3, z4, z5, z6, z7, hC5⟩ := HN5.out
          have HB5 := Lib.hid (HBx.out.trans (hb5.mono HBx.out.size))
          have hzr := zero_any y A3 c3 W5 hC5 hl3
          have HZr := Lib.hid hzr
          clear hn5 hW5 hb5 h0 h1 h2 h3 h4 h5 h6 h7 hC5 hzr q0 q1 q2
          by_cases a1 : 1 ≤ y.f2
          · have g1 : decide (y.f2 < 1) = false := decide_eq_false (by omega)
            by_cases a2 : y.f2 ≤ 256
            · have g2 : decide (y.f2 > 256) = false := decide_eq_false (by omega)
              obtain ⟨zb, hzb⟩ : ∃ b, zeroB y = b := ⟨_, rfl⟩
              rw [hzb] at HZr
              have HZb := Lib.hid hzb
              clear hzb
              cases zb
              · go_wp2_with fail
                refine HZr.out.mono ?_
                rintro e w6 ⟨rfl, hb6⟩
                have HB6 := Lib.hid (HB5.out.trans (hb6.mono HB5.out.size))
                clear hb6
                go_wp2_with fail
                go_ret
                refine ⟨?_, HB0.out.trans (HB6.out.mono (Nat.le_of_lt hzz))⟩
                rw [HNo.out (fun h => ?_)]
                · rfl
                · have := h.z i (by rw [HN.out]; exact HLt.out)
                  rw [HY.out, HZb.out] at this
                  cases this
              · go_wp2_with fail
                refine HZr.out.mono ?_
                rintro e w6 ⟨rfl, hb6⟩
                have HB6 := Lib.hid (HB5.out.trans (hb6.mono HB5.out.size))
                have HN6 := Lib.hid (HN5.out.below hb6)
                clear hb6 z0 z1 z2 z3 z4 z5 z6 z7
                obtain ⟨p, hp⟩ : ∃ p, y.f3.length = p := ⟨_, rfl⟩
                have HP3 := Lib.hid hp
                have hpb : p * 8 ≤ 140737488355328 := by rw [← hp]; exact HYb.out
                clear hp
                go_wp2_with fail
                go_loopw [6] (fun v6 wy => ∃ j : Nat, v6 = .int .i64 j ∧ j ≤ p ∧ Hid (∀ k, k < j → 0 ≤ y.f3.getD k 0 ∧ y.f3.getD k 0 < (n : Int)) ∧ Hid (Below w6.heap.size w6 wy)) (fun v6 _ => p - (intOf v6).toNat)
                case atStart => exact ⟨0, rfl, Nat.zero_le _, Lib.hid (fun k hk => absurd hk (Nat.not_lt_zero _)), Lib.hid (Below.refl _ _)⟩
                case round =>
                  obtain ⟨j, rfl, hj, HJ, HBy⟩ := hrel
                  have hNy := HN6.out.below HBy.out
                  have z3 := hNy.k3
                  rw [HP3.out] at z3
                  have HCy := Lib.hid hNy.hC
                  clear hNy
                  by_cases hjl : j < p
                  · obtain ⟨b6, o6, hA6, g6, -⟩ := ints_at HCy.out j (by rw [HP3.out]; exact hjl)
                    subst hA6
                    obtain ⟨a, ha⟩ : ∃ a, y.f3.getD j 0 = a := ⟨_, rfl⟩
                    rw [ha] at g6
                    have HA := Lib.hid ha
                    have HJl := Lib.hid hjl
                    clear ha
                    have hbad : ¬ (0 ≤ a ∧ a < (n : Int)) → ans = false := fun hb => HNo.out (fun h => by
                      have h1 := h.w i (by rw [HN.out]; exact HLt.out)
                      rw [HY.out] at h1
                      have h2 := ((wideB_iff _ _).1 h1).2.2 j (by rw [HP3.out]; exact HJl.out)
                      rw [HA.out, HN.out] at h2
                      exact hb h2)
                    have HBad := Lib.hid hbad
                    clear hbad
                    by_cases b1 : 0 ≤ a
                    · have g1 : decide (a < 0) = false := decide_eq_false (by omega)
                      by_cases b2 : a < (n : Int)
                      · have g2 : decide (a ≥ (n : Int)) = false := decide_eq_false (by omega)
                        go_wp2_with fail
                        refine ⟨⟨j + 1, by simp, HJl.out, Lib.hid (fun k hk => ?_), HBy⟩, by have := HJl.out; simp [intOf]; omega⟩
                        by_cases e : k = j
                        · subst e; rw [HA.out]; exact ⟨b1, b2⟩
                        · exact HJ.out k (by omega)
                      · have g2 : decide (a ≥ (n : Int)) = true := decide_eq_true (by omega)
                        have B2 := Lib.hid b2
                        go_wp2_with fail
                        go_ret
                        exact ⟨by rw [HBad.out (fun h => by have := B2.out; omega)]; try rfl, HB0.out.trans ((HB6.out.trans (HBy.out.mono HB6.out.size)).mono (Nat.le_of_lt hzz))⟩
                    · have g1 : decide (a < 0) = true := decide_eq_true (by omega)
                      have B1 := Lib.hid b1
                      go_wp2_with fail
                      go_ret
                      exact ⟨by rw [HBad.out (fun h => by have := B1.out; omega)]; try rfl, HB0.out.trans ((HB6.out.trans (HBy.out.mono HB6.out.size)).mono (Nat.le_of_lt hzz))⟩
                  · obtain rfl : j = p := by omega
                    have A1 := Lib.hid a1
                    have A2 := Lib.hid a2
                    go_wp2_with fail
                    refine ⟨⟨i + 1, by simp, HLt.out, Lib.hid (fun k hk => ?_), Lib.hid (HB6.out.trans (HBy.out.mono HB6.out.size))⟩, by have := HLt.out; simp [intOf]; omega⟩
                    by_cases e : k = i
                    · subst e
                      rw [HY.out]
                      exact ⟨(wideB_iff _ _).2 ⟨A1.out, A2.out, fun q hq => by rw [HP3.out] at hq; rw [HN.out]; exact HJ.out q hq⟩, HZb.out⟩
                    · exact HWi.out k (by omega)
            · have g2 : decide (y.f2 > 256) = true := decide_eq_true (by omega)
              have A2 := Lib.hid a2
              go_wp2_with fail
              go_ret
              refine ⟨?_, HB0.out.trans (HB5.out.mono (Nat.le_of_lt hzz))⟩
              rw [HNo.out (fun h => ?_)]
              · rfl
              · have h1 := h.w i (by rw [HN.out]; exact HLt.out)
                rw [HY.out] at h1
                have := ((wideB_iff _ _).1 h1).2.1
                have := A2.out
                omega
          · have g1 : decide (y.f2 < 1) = true := decide_eq_true (by omega)
            have A1 := Lib.hid a1
            go_wp2_with fail
            go_ret
            refine ⟨?_, HB0.out.trans (HB5.out.mono (Nat.le_of_lt hzz))⟩
            rw [HNo.out (fun h => ?_)]
            · rfl
            · have h1 := h.w i (by rw [HN.out]; exact HLt.out)
              rw [HY.out] at h1
              have := ((wideB_iff _ _).1 h1).1
              have := A1.out
              omega
        · obtain rfl : i = n := by omega
          rename World => WA
          obtain ⟨W1, m1, hb1, hz1, ho1⟩ := make23 i (by omega) WA
          have HB1 := Lib.hid hb1
          have HO1 := Lib.hid ho1
          have HZ1 := Lib.hid hz1
          clear hb1 ho1 hz1 hlt hi
          go_upto_region 16 with fail
          clear m1 q0 q1 q2
          go_wp2_with fail
          go_loopw [8] (fun v8 wy => ∃ k : Nat, v8 = .int .i64 k ∧ k ≤ m ∧ Hid (∀ q, q < k → 0 ≤ x.nt.getD q 0 ∧ x.nt.getD q 0 < (i : Int)) ∧ Hid (Cl eI wy WA.heap.size i (cntN x.nt k)) ∧ Hid (Below WA.heap.size WA wy)) (fun v8 _ => m - (intOf v8).toNat)
          case atStart => exact ⟨0, rfl, Nat.zero_le _, Lib.hid (fun k hk => absurd hk (Nat.not_lt_zero _)), Lib.hid (HO1.out.size (fun j _ => by unfold cntN; rw [List.take_zero]; rfl)), HB1⟩
          case round =>
            obtain ⟨k, rfl, hk, HK, HO, HBy⟩ := hrel
            have HXy := Lib.hid (HXx.out.below HBy.out)
            have HBz := Lib.hid (HBw.out.trans (HBy.out.mono HBw.out.size))
            obtain ⟨q0, q1, q2⟩ := HXy.out
            by_cases hkl : k < m
            · obtain ⟨bb, oo, hBB, g6, -⟩ := ints_at (HI.out.below HBz.out).h1 k (by rw [HM.out]; exact hkl)
              subst hBB
              obtain ⟨a, ha⟩ : ∃ a, x.nt.getD k 0 = a := ⟨_, rfl⟩
              rw [ha] at g6
              have HA := Lib.hid ha
              have HKl := Lib.hid hkl
              clear ha
              have hbad : ¬ (0 ≤ a ∧ a < (i : Int)) → ans = false := fun hb => HNo.out (fun h => by
                have h1 := h.t k (by rw [HM.out]; exact HKl.out)
                unfold inB at h1
                rw [HA.out, HN.out, Bool.and_eq_true, decide_eq_true_eq, decide_eq_true_eq] at h1
                exact hb h1)
              have HBad := Lib.hid hbad
              clear hbad
              by_cases b1 : 0 ≤ a
              · have g1 : decide (a < 0) = false := decide_eq_false (by omega)
                by_cases b2 : a < (i : Int)
                · have g2 : decide (a ≥ (i : Int)) = false := decide_eq_false (by omega)
                  obtain ⟨a', rfl⟩ : ∃ a' : Nat, a = (a' : Int) := ⟨a.toNat, by omega⟩
                  have hai : a' < i := by omega
                  have c1 := HO.out.c a' hai
                  have c2 := HO.out.f a' hai
                  have hcs := cntN_succ x.nt k a' (by rw [HM.out]; exact hkl) HA.out
                  have hcl := cntN_le x.nt k a'
                  generalize cntN x.nt k a' = cv at *
                  have HCs := Lib.hid hcs
                  have HB2 := Lib.hid b2
                  clear hcs
                  go_wp2_with fail
                  refine ⟨⟨k + 1, by simp, HKl.out, Lib.hid (fun q hq => ?_), by rw [← HCs.out]; exact Lib.hid (HO.out.set a' (cv + 1)), Lib.hid (below_set2 (Nat.le_refl _) HBy.out)⟩, by have := HKl.out; simp [intOf]; omega⟩
                  by_cases e : q = k
                  · subst e; rw [HA.out]; exact ⟨by omega, HB2.out⟩
                  · exact HK.out q (by omega)
                · have g2 : decide (a ≥ (i : Int)) = true := decide_eq_true (by omega)
                  have B2 := Lib.hid b2
                  go_wp2_with fail
                  go_ret
                  exact ⟨by rw [HBad.out (fun h => by have := B2.out; omega)]; try rfl, HBz.out⟩
              · have g1 : decide (a < 0) = true := decide_eq_true (by omega)
                have B1 := Lib.hid b1
                go_wp2_with fail
                go_ret
                exact ⟨by rw [HBad.out (fun h => by have := B1.out; omega)]; try rfl, HBz.out⟩
            · obtain rfl : k = m := by omega
              rename World => WB
              clear hkl hk
              go_wp2_with fail
              clear q0 q1 q2
              go_loopw [9] (fun v9 wz => ∃ j : Nat, v9 = .int .i64 j ∧ j ≤ i ∧ Hid (∀ q, q < j → nodeB (wsOf x.nd (nAt x q)) (nAt x q) = true ∧ portB x.nt q (nAt x q) = true) ∧ Hid (Below WB.heap.size WB wz)) (fun v9 _ => i - (intOf v9).toNat)
              case atStart => exact ⟨0, rfl, Nat.zero_le _, Lib.hid (fun k hk => absurd hk (Nat.not_lt_zero _)), Lib.hid (Below.refl _ _)⟩
              case round =>
                obtain ⟨j, rfl, hj, HJ, HBq⟩ := hrel
                have HBr := Lib.hid (HBz.out.trans (HBq.out.mono HBz.out.size))
                by_cases hjl : j < i
                · have hk' : j < x.nd.length := by rw [HN.out]; exact hjl
                  obtain ⟨b, o, A3, c3, hA, hl3, hbs, hND⟩ := nodes_in HI.out.h0 j hk'
                  subst hA
                  obtain ⟨y, hy⟩ : ∃ y, x.nd.getD j z39 = y := ⟨_, rfl⟩
                  rw [hy] at hl3 hND
                  have hyn : nAt x j = y := hy
                  have hym : y ∈ x.nd := by rw [← hy, List.getD_eq_getElem?_getD, List.getElem?_eq_getElem hk']; exact List.getElem_mem _
                  have hwj := HWi.out j hjl
                  rw [hyn] at hwj
                  have hwd := (wideB_iff _ _).1 hwj.1
                  have hYO : YOk x y := by
                    refine ⟨by rw [HN.out]; exact hn4, fun s hs => ?_, fun u hu => ?_, HI.out.z y hym, HI.out.b0 y hym⟩
                    · obtain ⟨q, hq, rfl⟩ := List.getElem_of_mem hs
                      have h1 := (HWi.out q (by rw [← HN.out]; exact hq)).1
                      have h2 : nAt x q = x.nd[q] := by unfold nAt; rw [List.getD_eq_getElem?_getD, List.getElem?_eq_getElem hq]; rfl
                      rw [h2] at h1
                      have h3 := (wideB_iff _ _).1 h1
                      exact ⟨h3.1, h3.2.1⟩
                    · obtain ⟨q, hq, rfl⟩ := List.getElem_of_mem hu
                      have h3 := hwd.2.2 q hq
                      rw [List.getD_eq_getElem?_getD, List.getElem?_eq_getElem hq] at h3
                      exact h3
                  have hNa := hND _ HBr.out
                  obtain ⟨h0, h1, h2, h3, h4, h5, h6, h7, hC3⟩ := hNa
                  obtain ⟨i0, i1, i2⟩ := HXy.out.below HBq.out
                  have hcc := (HO.out.below2 HBq.out).c j hjl
                  have hcn : cntN x.nt k j = x.nt.count (j : Int) := by unfold cntN; rw [← HM.out, List.take_length]
                  rw [hcn] at hcc
                  have hnd : ∀ p : BelowBy wr, Calls Tryd.prog 28 #[.agg #[.slice (some ⟨b, o, none⟩) i c, .slice B k d, .int .i64 x.pt], ndV y A3 c3] p.W fun e w' => e = .returned (.bool (nodeB (wsOf x.nd y) y)) ∧ Below p.W.heap.size p.W w' := by
                    intro p
                    have h9 := node_any x _ c B d y A3 c3 p.W (HI.out.below (HBr.out.trans (p.h.mono HBr.out.size))) (Kd.C_below hC3 p.h) hl3 hYO hwd.1 hwd.2.1
                    unfold nlV at h9
                    rw [HN.out, HM.out] at h9
                    exact h9
                  obtain ⟨nb, hnb⟩ : ∃ nb, nodeB (wsOf x.nd y) y = nb := ⟨_, rfl⟩
                  rw [hnb] at hnd
                  have HNd := Lib.hid hnd
                  have HNb := Lib.hid hnb
                  have HYn := Lib.hid hyn
                  have HJl := Lib.hid hjl
                  have n0 : ∀ p : BelowBy wr, p.W.cell? ⟨w.heap.size, 0, none⟩ = some (.slice (some ⟨b, o, none⟩) i c) := fun p => p.cell i0
                  have n1 : ∀ p : BelowBy wr, p.W.cell? ⟨w.heap.size, 1, none⟩ = some (.slice B k d) := fun p => p.cell i1
                  have n2 : ∀ p : BelowBy wr, p.W.cell? ⟨w.heap.size, 2, none⟩ = some (.int .i64 x.pt) := fun p => p.cell i2
                  have p0 : ∀ p : BelowBy wr, p.W.cell? ⟨b, o + j * 8, none⟩ = some (.int .i64 y.f0) := fun p => p.cell h0
                  have p1 : ∀ p : BelowBy wr, p.W.cell? ⟨b, o + j * 8 + 1, none⟩ = some (.int .i64 y.f1) := fun p => p.cell h1
                  have p2 : ∀ p : BelowBy wr, p.W.cell? ⟨b, o + j * 8 + 2, none⟩ = some (.int .i64 y.f2) := fun p => p.cell h2
                  have p3 : ∀ p : BelowBy wr, p.W.cell? ⟨b, o + j * 8 + 3, none⟩ = some (.slice A3 y.f3.length c3) := fun p => p.cell h3
                  have p4 : ∀ p : BelowBy wr, p.W.cell? ⟨b, o + j * 8 + 4, none⟩ = some (.string y.f4) := fun p => p.cell h4
                  have p5 : ∀ p : BelowBy wr, p.W.cell? ⟨b, o + j * 8 + 5, none⟩ = some (.int .i64 y.f5) := fun p => p.cell h5
                  have p6 : ∀ p : BelowBy wr, p.W.cell? ⟨b, o + j * 8 + 6, none⟩ = some (.int .i64 y.f6) := fun p => p.cell h6
                  have p7 : ∀ p : BelowBy wr, p.W.cell? ⟨b, o + j * 8 + 7, none⟩ = some (.int .i64 y.f7) := fun p => p.cell h7
                  have t0 : ∀ p : BelowBy wr, p.W.cell? ⟨WA.heap.size, j, none⟩ = some (.int .i64 (x.nt.count (j : Int) : Int)) := fun p => p.cell hcc
                  have hpo : portB x.nt j y = (!decide (y.f0 = 2) || decide (x.nt.count (j : Int) = 1)) := rfl
                  have HPo := Lib.hid hpo
                  have hjI : (j : Int) < (i : Int) := by omega
                  clear hnd hnb hyn hk' hbs hND hy hym hwj hwd hYO h0 h1 h2 h3 h4 h5 h6 h7 hC3 i0 i1 i2 hcc hcn hpo hl3
                  have hbadn : nb = false → ans = false := fun hb => HNo.out (fun h => by
                    have h1 := h.k j (by rw [HN.out]; exact HJl.out)
                    rw [HYn.out, HNb.out, hb] at h1
                    cases h1)
                  have hbadp : portB x.nt j y = false → ans = false := fun hb => HNo.out (fun h => by
                    have h1 := h.q j (by rw [HN.out]; exact HJl.out)
                    rw [HYn.out, hb] at h1
                    cases h1)
                  have HBn := Lib.hid hbadn
                  have HBp := Lib.hid hbadp
                  clear hbadn hbadp
                  cases nb
                  · skip
                    go_upto_region 25 with fail
                    refine region_below (by kernel_rfl) (by kernel_rfl) ?_
                    repeat (quiet_step (with_reducible first | exact call_below _ (HNd.out _) | fail))
                    refine wpQuiet_nil ?_
                    rintro _ ⟨p, rfl⟩
                    go_wp2_with fail
                    go_ret
                    exact ⟨by rw [HBn.out (by first | trivial | rfl)]; try rfl, HBr.out.trans (p.h.mono HBr.out.size)⟩
                  · by_cases f2 : y.f0 = 2
                    · have d2 : (y.f0 == 2) = true := beq_iff_eq.mpr f2
                      have F2 := Lib.hid f2
                      clear f2
                      by_cases cc : x.nt.count (j : Int) = 1
                      · have hpt : portB x.nt j y = true := by rw [HPo.out, decide_eq_true cc]; simp
                        have HPt := Lib.hid hpt
                        have d3 : ((x.nt.count (j : Int) : Int) != 1) = false := bne_eq_false_iff_eq.mpr (by omega)
                        generalize x.nt.count (j : Int) = cn at *
                        clear hpt cc
                        go_upto_region 25 with fail
                        refine region_below (by kernel_rfl) (by kernel_rfl) ?_
                        repeat (quiet_step (with_reducible first | exact call_below _ (HNd.out _) | fail))
                        refine wpQuiet_nil ?_
                        rintro _ ⟨p, rfl⟩
                        go_wp2_with fail
                        refine ⟨⟨j + 1, by simp, HJl.out, Lib.hid (fun q hq => ?_), Lib.hid (HBq.out.trans (p.h.mono HBq.out.size))⟩, by have := HJl.out; simp [intOf]; omega⟩
                        by_cases e : q = j
                        · subst e; rw [HYn.out]; exact ⟨HNb.out, by exact HPt.out⟩
                        · exact HJ.out q (by omega)
                      · have hpt : portB x.nt j y = false := by rw [HPo.out, decide_eq_false cc, decide_eq_true F2.out]; rfl
                        have HPt := Lib.hid hpt
                        have d3 : ((x.nt.count (j : Int) : Int) != 1) = true := bne_iff_ne.mpr (by omega)
                        generalize x.nt.count (j : Int) = cn at *
                        clear hpt cc
                        go_upto_region 25 with fail
                        refine region_below (by kernel_rfl) (by kernel_rfl) ?_
                        repeat (quiet_step (with_reducible first | exact call_below _ (HNd.out _) | fail))
                        refine wpQuiet_nil ?_
                        rintro _ ⟨p, rfl⟩
                        go_wp2_with fail
                        go_ret
                        exact ⟨by rw [HBp.out HPt.out]; try rfl, HBr.out.trans (p.h.mono HBr.out.size)⟩
                    · have d2 : (y.f0 == 2) = false := beq_eq_false_iff_ne.mpr f2
                      have hpt : portB x.nt j y = true := by rw [HPo.out, decide_eq_false f2]; rfl
                      have HPt := Lib.hid hpt
                      clear hpt f2
                      go_upto_region 25 with fail
                      refine region_below (by kernel_rfl) (by kernel_rfl) ?_
                      repeat (quiet_step (with_reducible first | exact call_below _ (HNd.out _) | fail))
                      refine wpQuiet_nil ?_
                      rintro _ ⟨p, rfl⟩
                      go_wp2_with fail
                      refine ⟨⟨j + 1, by simp, HJl.out, Lib.hid (fun q hq => ?_), Lib.hid (HBq.out.trans (p.h.mono HBq.out.size))⟩, by have := HJl.out; simp [intOf]; omega⟩
                      by_cases e : q = j
                      · subst e; rw [HYn.out]; exact ⟨HNb.out, by exact HPt.out⟩
                      · exact HJ.out q (by omega)
                · obtain rfl : j = i := by omega
                  have hyes : ans = true := HYes.out ⟨by rw [HN.out]; exact hn4, by rw [HP.out, HM.out], fun q hq => (HWi.out q (by rw [← HN.out]; exact hq)).1, fun q hq => by unfold inB; have := HK.out q (by rw [← HM.out]; exact hq); rw [HN.out, decide_eq_true this.1, decide_eq_true this.2]; rfl, fun q hq => (HJ.out q (by rw [← HN.out]; exact hq)).1, fun q hq => (HWi.out q (by rw [← HN.out]; exact hq)).2, fun q hq => (HJ.out q (by rw [← HN.out]; exact hq)).2⟩
                  have HYe := Lib.hid hyes
                  clear hyes
                  go_wp2_with fail
                  go_ret
                  exact ⟨by rw [HYe.out]; try rfl, HBr.out⟩
    · have d1 : (x.pt != (m : Int)) = true := bne_iff_ne.mpr hp
      have HP := Lib.hid hp
      clear hp
      go_wp2_with fail
      go_ret
      exact ⟨by rw [HNo.out (fun h => HP.out (by rw [h.p, HM.out]))]; try rfl, HB0.out⟩
  · have HQ := Lib.hid hn4
    go_wp2_with fail
    go_ret
    exact ⟨by rw [HNo.out (fun h => HQ.out (by rw [← HN.out]; exact h.n))]; try rfl, HB0.out⟩
end Go.Proofs.YtonnmkhmhndalaaDoor
end
section
namespace Go.Proofs.YtonnmkhmhndalaaDoor
set_option linter.unusedVariables false
set_option linter.unusedSimpArgs false
open Go.RowKit Go.Proofs.YtonnmkhmhndalaaDoorW.PrintWords Go.Proofs.YtonnmkhmhndalaaDoorW.PrintLast Go.Proofs.YtonnmkhmhndalaaDoorW.PrintMore
def LvrP (w : World) (l : List S39) (e : Ending) (w' : World) : Prop :=
  Below w.heap.size w w' ∧ ((∃ (D : Nat) (out : Nat → Nat), e = .returned (.tuple #[.slice (some ⟨D, 0, none⟩) l.length l.length, .bool true]) ∧ w.heap.size ≤ D ∧ Cl eI w' D l.length out ∧ (∀ u, u < l.length → ∀ h ∈ hs l u, out h + 1 ≤ out u) ∧ (∀ L, IsLev l.length (hs l) L → ∀ u, u < l.length → out u = L u)) ∨
    (e = .returned (.tuple #[.slice none 0 0, .bool false]) ∧ ∀ L, ¬ IsLev l.length (hs l) L))
set_option maxRecDepth 100000 in
set_option maxHeartbeats 4000000 in
theorem lvr_any (x : NL) (A : Option Addr) (c : Nat) (B : Option Addr) (d : Nat) (w : World) (hI : NIn w x A c B d) (hL : LOk x.nd) :
    Calls Tryd.prog 16 #[nlV x A c B d] w (LvrP w x.nd) := by
  obtain ⟨n, hn⟩ : ∃ n, x.nd.length = n := ⟨_, rfl⟩
  have hn4 : n ≤ 4096 := by rw [← hn]; exact hL.n
  have HI := Lib.hid hI
  have HL := Lib.hid hL
  have HN := Lib.hid hn
  have hhs : ∀ k, k < n → ∀ h ∈ hs x.nd k, h < n := by rw [← hn]; exact hL.hsl
  have HHs := Lib.hid hhs
  clear hI hL hhs
  go_enter Tryd.func16, Tryd.ntmps16
  go_upto_region 1 with fail
  obtain ⟨W0, hW0⟩ : ∃ W, w.alloc (Obj.cells #[.slice A n c, .slice B x.nt.length d, .int .i64 x.pt] 25) = W := ⟨_, rfl⟩
  rw [hW0]
  obtain ⟨hx0, hb0, hz0⟩ := box_list hW0
  have q0 := hx0.k0
  obtain ⟨W1, m1, hb1, hz1, ho1⟩ := make23 n (by omega) W0
  have HX0 := Lib.hid hx0
  have HB0 := Lib.hid hb0
  have HZ0 := Lib.hid hz0
  have HB1 := Lib.hid hb1
  have HO1 := Lib.hid ho1
  clear hx0 hb0 hz0 hb1 hz1 ho1 hW0 hn
  go_upto_region 3 with fail
  clear q0 m1
  go_wp2_with fail
  go_loopw [6] (fun v6 wx => ∃ (r : Nat) (out : Nat → Nat), v6 = .int .i64 r ∧ r ≤ n + 1 ∧ Hid (r = n + 1 → ∀ L, ¬ IsLev n (hs x.nd) L) ∧ Hid (BInv n (hs x.nd) r 0 [] out false) ∧ Hid (Cl eI wx W0.heap.size n out) ∧ Hid (Below W0.heap.size W0 wx)) (fun v6 _ => n + 1 - (intOf v6).toNat)
  case atStart => exact ⟨0, _, rfl, Nat.zero_le _, Lib.hid (fun h => by omega), Lib.hid (BInv.start _ _), HO1, HB1⟩
  case round =>
    obtain ⟨r, out, rfl, hr, HNo, HBi, HO, HBx⟩ := hrel
    have hzz : w.heap.size < W0.heap.size := by have := HZ0.out; omega
    by_cases hlt : r ≤ n
    · go_wp2_with fail
      go_loopw [7, 8] (fun v7 v8 wx => ∃ (i : Nat) (ch : Bool) (out : Nat → Nat), v7 = .bool ch ∧ v8 = .int .i64 i ∧ i ≤ n ∧ Hid (BInv n (hs x.nd) r i [] out ch) ∧ Hid (Cl eI wx W0.heap.size n out) ∧ Hid (Below W0.heap.size W0 wx)) (fun _ v8 _ => n - (intOf v8).toNat)
      case atStart => exact ⟨0, false, out, rfl, rfl, Nat.zero_le _, HBi, HO, HBx⟩
      case round =>
        obtain ⟨i, ch, out, rfl, rfl, hi, HBi, HO, HBx⟩ := hrel
        have q0 := (HX0.out.belowB HBx.out hzz).k0
        by_cases hil : i < n
        · have hk' : i < x.nd.length := by rw [HN.out]; exact hil
          obtain ⟨b, o, A3, c3, hA, hl3, hbs, hND⟩ := nodes_in HI.out.h0 i hk'
          subst hA
          have hq7 := HL.out.f i hk'
          have HC := Lib.hid (HL.out.cast i hk')
          have HLe := Lib.hid (HL.out.le i hk')
          have HAt := Lib.hid (HL.out.at_ i hk')
          have HLn := Lib.hid (hs_len x.nd i)
          generalize x.nd.getD i z39 = y at *
          have hh := fun W hW => hangsR_any y A3 c3 W hW hl3 hq7
          have HH := Lib.hid hh
          have HND := Lib.hid hND
          have HIl := Lib.hid hil
          have hW := HB0.out.trans (HBx.out.mono (Nat.le_of_lt hzz))
          obtain ⟨h0, h1, h2, h3, h4, h5, h6, h7, hC3⟩ := hND _ hW
          have HC3 := Lib.hid hC3
          clear hk' hl3 hC3 hbs hq7 hh hND hW
          go_upto_region 10 with fail
          go_wp2_with fail
          refine (HH.out _ HC3.out).mono ?_
          rintro e w6 ⟨A6, c6, rfl, hl6, hC6, hb6⟩
          obtain ⟨m, hm⟩ : ∃ m, (hg y).length = m := ⟨_, rfl⟩
          have HB6 := Lib.hid (HBx.out.trans (hb6.mono HBx.out.size))
          have HO6 := Lib.hid (HO.out.below hb6 HO.out.s)
          have HC6 := Lib.hid hC6
          have hmm := HLn.out.trans hm
          have hm256 : m ≤ 256 := by rw [← hm]; exact HLe.out
          have HMm := Lib.hid hmm
          have HMM := Lib.hid hm
          clear hC6 hl6 hb6 hmm h0 h1 h2 h3 h4 h5 h6 h7 q0
          go_wp2_with fail
          clear hm
          go_loopw [7, 10] (fun v7 v10 wy => ∃ (j : Nat) (ch : Bool) (out : Nat → Nat), v7 = .bool ch ∧ v10 = .int .i64 j ∧ j ≤ m ∧ Hid (BInv n (hs x.nd) r i ((hs x.nd i).take j) out ch) ∧ Hid (Cl eI wy W0.heap.size n out) ∧ Hid (Below W0.heap.size W0 wy)) (fun _ v10 _ => m - (intOf v10).toNat)
          case atStart => exact ⟨0, ch, out, rfl, rfl, Nat.zero_le _, by rw [List.take_zero]; exact HBi, HO6, HB6⟩
          case round =>
            obtain ⟨j, ch, out, rfl, rfl, hj, HBj, HOy, HBy⟩ := hrel
            by_cases hjl : j < m
            · have hjg : j < (hg y).length := by rw [HMM.out]; exact hjl
              have hjs : j < (hs x.nd i).length := by rw [HMm.out]; exact hjl
              have hCy := HC6.out _ (HND.out _ (HB0.out.trans (HBy.out.mono (Nat.le_of_lt hzz)))).hC
              obtain ⟨b6, o6, hA6, g6, -⟩ := ints_at hCy j hjg
              subst hA6
              obtain ⟨a, ha⟩ : ∃ a, (hs x.nd i)[j] = a := ⟨_, rfl⟩
              have hg0 : (hg y).getD j 0 = (a : Int) := by
                rw [← HC.out, ints_getD _ _ hjs, List.getD_eq_getElem?_getD, List.getElem?_eq_getElem hjs]
                show (((hs x.nd i)[j] : Nat) : Int) = a
                rw [ha]
              have han : a < n := HHs.out i hil a (by rw [← ha]; exact List.getElem_mem _)
              have htk : (hs x.nd i).take (j + 1) = (hs x.nd i).take j ++ [a] := by
                rw [List.take_succ_eq_append_getElem hjs, ha]
              have hsp : hs x.nd i = (hs x.nd i).take j ++ a :: (hs x.nd i).drop (j + 1) := by
                conv => lhs; rw [← List.take_append_drop j (hs x.nd i)]
                rw [List.drop_eq_getElem_cons hjs, ha]
              rw [hg0] at g6
              have c1 := HOy.out.c a han
              have c2 := HOy.out.c i hil
              have c3 := HOy.out.f i hil
              have hb4 := HBj.out.b4 a han
              have hlim := lim_le r i (by omega) (by omega)
              have htl : ((hs x.nd i).take j).length ≤ j := List.length_take_le _ _
              have hout : out a ≤ 8589934592 + 4096 := by omega
              have HTk := Lib.hid htk
              have HSp := Lib.hid hsp
              have HJ := Lib.hid hjl
              clear htk hsp hb4 hlim htl hCy hjg hjs ha hg0
              by_cases hgt : out i < out a + 1
              · have hgt1 : (out i : Int) < (out a : Int) + 1 := by omega
                have HR := Lib.hid (HBj.out.relax hil HSp.out HHs.out hgt)
                clear hgt
                go_upto_region 14 with fail
                go_region
                go_wp2_with fail
                refine ⟨⟨j + 1, true, upd out i (out a + 1), rfl, by simp, HJ.out, by rw [HTk.out]; exact HR, Lib.hid ?_, Lib.hid ?_⟩, by have := HJ.out; simp [intOf]; omega⟩
                · exact Cl.set (HOy.out.below (below_drew (Below.refl _ _)) HOy.out.s) i (out a + 1)
                · exact below_set2 (Nat.le_refl _) HBy.out.drew
              · have hgt1 : (out a : Int) + 1 ≤ (out i : Int) := by omega
                have HR := Lib.hid (HBj.out.stay (h := a) hgt)
                clear hgt
                go_upto_region 14 with fail
                go_region
                go_wp2_with fail
                refine ⟨⟨j + 1, ch, out, rfl, by simp, HJ.out, by rw [HTk.out]; exact HR, Lib.hid ?_, Lib.hid ?_⟩, by have := HJ.out; simp [intOf]; omega⟩
                · exact HOy.out.below (below_drew (Below.refl _ _)) HOy.out.s
                · exact HBy.out.drew
            · obtain rfl : j = m := by omega
              have hnx : BInv n (hs x.nd) r (i + 1) [] out ch := by
                have h1 := HBj.out
                rw [List.take_of_length_le (by rw [HMm.out]; exact Nat.le_refl _)] at h1
                exact h1.next hil (by rw [HMm.out]; exact hm256) HHs.out
              have HNx := Lib.hid hnx
              clear hnx
              go_wp2_with fail
              refine ⟨⟨i + 1, ch, out, rfl, by simp, HIl.out, HNx, HOy, HBy⟩, by have := HIl.out; simp [intOf]; omega⟩
        · obtain rfl : i = n := by omega
          cases ch
          · obtain ⟨hf1, hf2⟩ := HBi.out.fixed
            have HF1 := Lib.hid hf1
            have HF2 := Lib.hid hf2
            clear hf1 hf2
            go_wp2_with fail
            refine bodyPost_ret (v := .tuple #[.slice (some ⟨W0.heap.size, 0, none⟩) i i, .bool true]) (by simp [results, Tryd.results16, go_sem]) rfl ⟨HB0.out.trans (HBx.out.mono (Nat.le_of_lt hzz)), Or.inl ?_⟩
            rw [HN.out]
            exact ⟨W0.heap.size, out, rfl, Nat.le_of_lt hzz, HO.out, HF1.out, fun L hL => HF2.out L hL HHs.out⟩
          · have HRd := Lib.hid (HBi.out.round hn4)
            have HB3 := Lib.hid HBi.out.b3
            go_wp2_with fail
            refine ⟨⟨r + 1, out, by simp, by omega, Lib.hid (fun h L hL => ?_), HRd, HO, HBx⟩, by simp [intOf]; omega⟩
            have := HB3.out L hL (by omega)
            cases this
    · obtain rfl : r = n + 1 := by omega
      have hno := HNo.out rfl
      go_wp2_with fail
      refine bodyPost_ret (v := .tuple #[.slice none 0 0, .bool false]) (by simp [results, Tryd.results16, go_sem]) rfl ⟨HB0.out.trans (HBx.out.mono (Nat.le_of_lt hzz)), Or.inr ⟨rfl, ?_⟩⟩
      rw [HN.out]
      exact hno
end Go.Proofs.YtonnmkhmhndalaaDoor
end
